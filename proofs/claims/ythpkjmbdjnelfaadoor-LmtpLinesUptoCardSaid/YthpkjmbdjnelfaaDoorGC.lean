/- Texts that the laws rest on, packed. -/
import Derived.Test.YthpkjmbdjnelfaaDoorGB
namespace Go.Proofs.YthpkjmbdjnelfaaDoor
open Go.RowKit
set_option linter.unusedSimpArgs false
set_option linter.unusedVariables false
/-- a slice over an object's rows; no rows: nil -/
def mA (b k c n : Nat) : AV := if c = 0 then .full k [] else .arr b k n c
def dRows (src : List (List D)) : List (List AV) := src.map fun r => r.map .d
section
variable {P : Program} {T : Tbl} {G : Gh} {h : AH} {w : World}
/-- cells of rows -/
def ARows (G : Gh) (k : Nat) (src : List (List AV)) (cells : List Value) : Prop :=
  cells.length = src.length * k ∧ (∀ r ∈ src, r.length = k) ∧ (∀ v ∈ cells, v.oneCell' = true) ∧ ∀ (i : Nat) (r : List AV) (j : Nat) (a : AV), src[i]? = some r → r[j]? = some a → a.one = true ∧ ∃ v, cells[i * k + j]? = some v ∧ VR G a v
theorem dRows_get {src : List (List D)} {i : Nat} {r : List AV} (h : (dRows src)[i]? = some r) : ∃ q, src[i]? = some q ∧ r = q.map .d := by
  unfold dRows at h
  rw [List.getElem?_map] at h
  obtain ⟨q, h1, h2⟩ := Option.map_eq_some_iff.1 h
  exact ⟨q, h1, h2.symm⟩
@[go_sem] theorem dRows_len (src : List (List D)) : (dRows src).length = src.length := by simp [dRows]
theorem CellRows.a {k : Nat} {src : List (List D)} {cells : List Value} (h : CellRows G.frz k src cells) : ARows G k (dRows src) cells :=
  ⟨by rw [dRows_len]; exact h.1, fun r hr => by
    obtain ⟨q, hq, rfl⟩ := List.mem_map.1 hr
    rw [List.length_map]; exact h.2.1 q hq, h.2.2.1, fun i r j a e1 e2 => by
    obtain ⟨q, h1, rfl⟩ := dRows_get e1
    rw [List.getElem?_map] at e2
    obtain ⟨d, hd, rfl⟩ := Option.map_eq_some_iff.1 e2
    obtain ⟨v, h3, h4⟩ := h.2.2.2 _ _ _ _ h1 hd
    exact ⟨rfl, v, h3, .d h4⟩⟩
variable {sl : List AV} {ops : Array Oper} {rest : List Oper} {o : Oper} {K : List AV → AH → Prop} {X : AV → AH → Prop} {cp : Bool} {Q : AQ}
/-- rows that will not be written any more -/
theorem Sim.ownM (P : Program) {b k c : Nat} {rows : List (List D)} {F : List (Nat × Ob)} {L : List Nat} (S : Sim T G ⟨(b, ⟨k, c, dRows rows⟩) :: F, L⟩ w) (hk : 0 < k) (hfull : ∀ r ∈ rows, r.length = k) :
    ∃ G' : Gh, Gle G G' ∧ Sim T G' ⟨F, G.nt :: L⟩ w ∧ VR G' (.own G.nt k rows) (.slice (some ⟨b, 0, none⟩) rows.length c) ∧ freshT G.nt L := by
  have hO := S.obj _ (List.mem_cons_self ..)
  obtain ⟨vs, ety, fz, hheap, hvs, hfz, hm⟩ := hO.mem
  have hcm := hO.cmax
  have hrest := hO.rest
  have hfree := hO.free
  have hlow := hO.low
  have h1 := hO.fits
  dsimp only at hvs hm hcm hrest hlow hheap h1 hfree
  have hlenr : (dRows rows).length = rows.length := by simp [dRows]
  rw [hlenr] at hrest h1
  have hsz : rows.length * k ≤ vs.size := by rw [hvs]; exact Nat.mul_le_mul_right _ h1
  have hget : ∀ (i : Nat) (r : List D), rows[i]? = some r → (dRows rows)[i]? = some (r.map .d) := fun i r h => by unfold dRows; rw [List.getElem?_map, h]; rfl
  have hno : ∀ o, G.frz b o = none := fun o => by
    rcases Nat.lt_or_ge o (rows.length * k) with ho | ho
    · have hi : o / k < rows.length := Nat.div_lt_of_lt_mul (by rw [Nat.mul_comm]; exact ho)
      have := hfree (o / k) _ (o % k) (hget _ _ (List.getElem?_eq_getElem hi)) (by rw [List.length_map, hfull _ (List.getElem_mem hi)]; exact Nat.mod_lt _ hk)
      rwa [← cells_div hk] at this
    · exact hrest o ho
  have hbF : b ∉ F.map Prod.fst := (List.nodup_cons.1 S.nd).1
  have hbt : ∀ t ∈ L, tokBlk G t ≠ some b := fun t ht e => S.todis t ht b e (List.mem_cons_self ..)
  have hnt : ∀ t ∈ L, t ≠ G.nt := fun t ht e => by
    obtain ⟨_, _, _, _, e2, _⟩ := (S.liv _ ht).mem
    rw [S.fin t (by omega)] at e2
    cases e2
  let F' : Frz := fun b' o => if b' = b then (if o < rows.length * k then vs[o]? else none) else G.frz b' o
  let G' : Gh := { base := G.base, frz := F', tok := fun t => if t = G.nt then some (k, .slice (some ⟨b, 0, none⟩) rows.length c) else G.tok t, nt := G.nt + 1 }
  have hF : ∀ b' o u, G.frz b' o = some u → F' b' o = some u := fun b' o u e => by
    show (if b' = b then _ else _) = _
    by_cases hbb : b' = b
    · subst hbb; rw [hno] at e; cases e
    · rw [if_neg hbb]; exact e
  have hG : Gle G G' := ⟨rfl, hF, fun b' o u e => by
    have e' : (if b' = b then (if o < rows.length * k then vs[o]? else none) else G.frz b' o) = some u := e
    by_cases hbb : b' = b
    · exact .inr (by rw [hbb]; exact hlow)
    · rw [if_neg hbb] at e'; exact .inl e', fun t x e => by
    show (if t = G.nt then _ else _) = _
    rw [if_neg (fun e' => by rw [S.fin t (by omega)] at e; cases e)]
    exact e⟩
  have hne_b : ∀ b', b' ≠ b → ∀ o, G.frz b' o = none → F' b' o = none := fun b' hb' o e => by
    show (if b' = b then _ else _) = _
    rw [if_neg hb']; exact e
  have hcell : ∀ (i : Nat) (r : List D) (j : Nat) (x : D), rows[i]? = some r → r[j]? = some x → ∃ v, vs[i * k + j]? = some v ∧ VD F' x v := fun i r j x h2 h3 => by
    obtain ⟨_, v, h4, h5⟩ := hm i _ j (.d x) (hget i r h2) (by rw [List.getElem?_map, h3]; rfl)
    cases h5 with
    | d h5 => exact ⟨v, h4, h5.mono hF⟩
  have htk : ∀ o, o < rows.length * k → (vs.toList.take (rows.length * k))[o]? = vs[o]? := fun o ho => by rw [List.getElem?_take_of_lt ho, Array.getElem?_toList]
  have hCR : CellRows F' k rows (vs.toList.take (rows.length * k)) := by
    refine ⟨by simp; exact Nat.min_eq_left hsz, hfull, fun v hv => ?_, fun i r j x h2 h3 => ?_⟩
    · obtain ⟨q, hq, rfl⟩ := List.getElem_of_mem hv
      have hq' : q < rows.length * k := by simp at hq; omega
      have hi : q / k < rows.length := Nat.div_lt_of_lt_mul (by rw [Nat.mul_comm]; exact hq')
      have hj : q % k < rows[q / k].length := by rw [hfull _ (List.getElem_mem hi)]; exact Nat.mod_lt _ hk
      obtain ⟨v, h4, h5⟩ := hcell (q / k) _ (q % k) _ (List.getElem?_eq_getElem hi) (List.getElem?_eq_getElem hj)
      rw [← cells_div hk] at h4
      have := htk q hq'
      rw [List.getElem?_eq_getElem hq, h4] at this
      injection this with this
      rw [this]; exact h5.one
    · obtain ⟨v, h4, h5⟩ := hcell i r j x h2 h3
      have hi : i < rows.length := (List.getElem?_eq_some_iff.1 h2).1
      have hj : j < k := by rw [← hfull r (List.mem_of_getElem? h2)]; exact (List.getElem?_eq_some_iff.1 h3).1
      have hlt : i * k + j < rows.length * k := by
        calc i * k + j < i * k + k := by omega
          _ = (i + 1) * k := by rw [Nat.succ_mul]
          _ ≤ rows.length * k := Nat.mul_le_mul_right _ (by omega)
      exact ⟨v, by rw [htk _ hlt]; exact h4, h5⟩
  have hVD : VD F' (.slc k rows) (.slice (some ⟨b, 0, none⟩) rows.length c) := VD.of_cells hCR (fun o u hu => by
    have hlt : o < rows.length * k := by
      have := (List.getElem?_eq_some_iff.1 hu).1
      simp at this; omega
    show (if b = b then (if o < _ then vs[o]? else none) else _) = _
    rw [if_pos rfl, if_pos hlt, ← htk o hlt]
    exact hu) h1 hcm
  have hblk : ∀ t ∈ L, tokBlk G' t = tokBlk G t := fun t ht => tokBlk_mono hG (S.liv t ht)
  have hnewblk : ∀ g, tokBlk G' G.nt = some g → g = b := fun g hg => by
    unfold tokBlk at hg
    have e1 : G'.tok G.nt = some (k, Value.slice (some ⟨b, 0, none⟩) rows.length c) := by show (if G.nt = G.nt then _ else _) = _; rw [if_pos rfl]
    rw [e1] at hg
    dsimp only at hg
    split at hg
    · injection hg with hg; exact hg.symm
    · cases hg
  have htok : G'.tok G.nt = some (k, .slice (some ⟨b, 0, none⟩) rows.length c) := by show (if G.nt = G.nt then _ else _) = _; rw [if_pos rfl]
  refine ⟨G', hG, ?_, .own hVD htok, fresh_tok hnt⟩
  refine ⟨S.below, fun g j x hx => ?_, fun b' o u e => ?_, fun t ht => ?_, fun p hp => ?_, (List.nodup_cons.1 S.nd).2, fun t ht => ?_, ?_, fun t ht g hg => ?_, List.nodup_cons.2 ⟨fun hm => hnt _ hm rfl, S.lnd⟩⟩
  · obtain ⟨u, h2, h3⟩ := S.glob g j x hx
    exact ⟨u, hF _ _ _ h2, h3.mono hF⟩
  · have e' : (if b' = b then (if o < rows.length * k then vs[o]? else none) else G.frz b' o) = some u := e
    by_cases hbb : b' = b
    · subst hbb
      rw [if_pos rfl] at e'
      split at e'
      · rw [cell_of_row _ _ _ vs ety fz hheap]; exact e'
      · cases e'
    · rw [if_neg hbb] at e'
      exact S.frz b' o u e'
  · show (if t = G.nt then _ else _) = _
    have ht' : G.nt + 1 ≤ t := ht
    rw [if_neg (by omega)]
    exact S.fin t (by omega)
  · have hO := S.obj p (List.mem_cons_of_mem _ hp)
    have hpb : p.1 ≠ b := fun e => hbF (by rw [← e]; exact List.mem_map_of_mem hp)
    exact hO.mono hG (fun o ho => hne_b _ hpb o ho)
  · rcases List.mem_cons.1 ht with rfl | ht
    · exact ⟨k, rows.length, c, some ⟨b, 0, none⟩, htok, h1, hcm, hk, (fun e => by cases e), fun a ha _ => by
        injection ha with ha
        exact ⟨b, vs, ety, fz, ha.symm, hlow, hheap, hvs, hfz, fun o ho => by
          show (if b = b then (if o < _ then _ else none) else _) = none
          rw [if_pos rfl, if_neg (by omega)]⟩⟩
    · exact (S.liv t ht).mono hG (fun g hg o ho => hne_b g (fun e => hbt t ht (by rw [← e]; exact hg)) o ho)
  · refine List.pairwise_cons.2 ⟨fun t ht g h2 h3 => ?_, S.tdis.imp_of_mem fun {a b'} ha hb' hd g h2 h3 => hd g (by rw [← hblk a ha]; exact h2) (by rw [← hblk b' hb']; exact h3)⟩
    have h2 := hnewblk _ h2
    subst h2
    rw [hblk t ht] at h3
    exact hbt t ht h3
  · rcases List.mem_cons.1 ht with rfl | ht
    · have hg := hnewblk _ hg
      subst hg
      exact hbF
    · rw [hblk t ht] at hg
      exact fun hm => S.todis t ht g hg (List.mem_cons_of_mem _ hm)
theorem VR.ownM {G' : Gh} {b k c t : Nat} {rows : List (List D)} (h : VR G' (.own t k rows) (.slice (some ⟨b, 0, none⟩) rows.length c)) : ∀ v, VR G' (.arr b k rows.length c) v → VR G' (.own t k rows) v := fun v hv => by
  cases hv
  exact h
end
end Go.Proofs.YthpkjmbdjnelfaaDoor

namespace Go.Proofs.YthpkjmbdjnelfaaDoor
open Go.RowKit
set_option linter.unusedSimpArgs false
set_option linter.unusedVariables false
section
variable {P : Program} {T : Tbl} {c : Code} {Q : AQ} {h : AH}
theorem AWp.nd {sl : List AV} (H : (h.objs.map Prod.fst).Nodup → AWp P T c Q sl h) : AWp P T c Q sl h := fun G w a S R => H S.nd G w a S R
end
end Go.Proofs.YthpkjmbdjnelfaaDoor

namespace Go.Proofs.YthpkjmbdjnelfaaDoor
open Go.RowKit
set_option linter.unusedSimpArgs false
set_option linter.unusedVariables false
section
variable {P : Program} {T : Tbl} {Q : AQ}
theorem AWp.iceP {code : Code} {N : Nat} {l : SL} {df : AV} (i : Nat) {b k c : Nat} (rows : List (List D)) {F : List (Nat × Ob)} {L : List Nat} (hi : lookS df i l = .ptr b k 0 0) (hN : Nat.blt i N = true) (h0 : 0 < rows.length) (hk : 0 < k) (hfull : ∀ r ∈ rows, r.length = k)
    (H : AWp P T code Q (mkS df (insS i (.elt k rows 0 0) l) N 0) ⟨F, L⟩) : AWp P T code Q (mkS df l N 0) ⟨(b, ⟨k, c, dRows rows⟩) :: F, L⟩ := by
  intro G w a S R
  have hsl : (mkS df l N 0)[i]? = some (.ptr b k 0 0) := by rw [mkS_get _ _ _ _ _ (by simpa [Nat.blt_eq] using hN), Nat.zero_add, hi]
  obtain ⟨v, hv0, hv⟩ := R.2 i _ hsl
  obtain ⟨G', hG, S', hown, hfr⟩ := S.ownM P hk hfull
  have helt : VR G' (.elt k rows 0 0) v := by
    cases hv
    cases hown with
    | own hd _ =>
      obtain ⟨A, c', e, _, _, _, _, hx⟩ := hd.slc_inv
      obtain ⟨b', off, val, hA, hx⟩ := hx h0
      injection e with e1 e2 e3
      rw [hA] at e1
      injection e1 with e1
      injection e1 with e1 e4
      subst e1 e4
      have := VR.elt (G := G') k rows 0 0 b 0 (fun j => val 0 j) rows[0] (List.getElem?_eq_getElem h0) (fun j x hj => by
        have := (hx 0 rows[0] j x (List.getElem?_eq_getElem h0) hj).1
        simpa using this) (fun j x hj => (hx 0 rows[0] j x (List.getElem?_eq_getElem h0) hj).2)
      simpa using this
  have R' : SlR G' (mkS df (insS i (.elt k rows 0 0) l) N 0) a.tmps := by
    rw [← mkS_set]
    refine ⟨by rw [List.length_set]; exact R.1, fun j x hx => ?_⟩
    by_cases hij : i = j
    · subst hij
      rw [List.getElem?_set_self (List.getElem?_eq_some_iff.1 hsl).1] at hx
      injection hx with hx
      subst hx
      exact ⟨_, hv0, helt⟩
    · rw [List.getElem?_set_ne hij] at hx
      exact (R.mono hG).2 j x hx
  have S2 := S'.drop (h' := ⟨F, L⟩) (List.Sublist.refl _) (List.sublist_cons_self ..)
  exact wp_mono (H G' w a S2 R') fun e a' w' hh => hh.mono hG (fun _ _ _ q => q)
end
end Go.Proofs.YthpkjmbdjnelfaaDoor

namespace Go.Proofs.YthpkjmbdjnelfaaDoor
open Go.RowKit
set_option linter.unusedSimpArgs false
set_option linter.unusedVariables false
section
variable {P : Program} {T : Tbl} {ops : Array Oper} {K : List AV → AH → Prop} {X : AV → AH → Prop} {o : Oper} {rest : List Oper} {sl : List AV} {h : AH}
/-- a call whose guard is false -/
theorem DW.skipc {cp : Bool} {g : Nat × Bool} (hg : o.guard = some g) (ht : gdA ops sl g.1 g.2 = some false) (k : Go.Proofs.YthpkjmbdjnelfaaDoor.lvc P T cp ops rest (putA o.dst (.cnd false .undef) sl) h K X) : DW P T cp ops (o :: rest) sl h K X := by
  unfold DW
  rw [if_neg (by unfold effK; rw [hg]; simp)]
  exact ⟨.cnd false .undef, by unfold Yg; rw [hg]; exact ⟨false, .undef, ht, rfl, fun e => by cases e⟩, fun _ h' => by unfold Yg; rw [hg]; exact ⟨false, .undef, ht, rfl, fun e => by cases e⟩, lvc_ok rest _ _ k⟩
theorem LV.lvc {l : List Oper} (H : lvc P T false ops l sl h K X) : LV P T ops l sl h K X := DW.list l sl h (lvc_ok l sl h H)
theorem LV.leH {l : List Oper} {h' : AH} (p : LeH h h') (H : LV P T ops l sl h' K X) : LV P T ops l sl h K X := fun G0 G w a ds hG S R hd => H G0 G w a ds hG (p _ _ _ S) R hd
end
end Go.Proofs.YthpkjmbdjnelfaaDoor

namespace Go.Proofs.YthpkjmbdjnelfaaDoor
open Go.RowKit
set_option linter.unusedSimpArgs false
set_option linter.unusedVariables false
section
variable {P : Program} {T : Tbl} {ops : Array Oper} {K : List AV → AH → Prop} {X : AV → AH → Prop} {o o2 : Oper} {rest : List Oper} {sl : List AV} {h : AH}
theorem ObR.cut {G : Gh} {w w' : World} {b k c i : Nat} {rows : List (List AV)} {zs : List Value} (hO : ObR G w b ⟨k, c, rows⟩) (hfull : ∀ r ∈ rows, r.length = k) (hi : i ≤ rows.length) (hw : w' = w.setCells b (i * k) zs) : ObR G w' b ⟨k, c, rows.take i⟩ := by
  subst hw
  obtain ⟨vs, e, fz, hh, hvs, hfz, hm⟩ := hO.mem
  obtain ⟨vs', h2, h3, h4⟩ := setCells_heap b zs (i * k) w vs e fz hh
  have hno : ∀ o, G.frz b o = none := fun o => by
    rcases Nat.lt_or_ge o (rows.length * k) with ho | ho
    · have hk : 0 < k := by rcases Nat.eq_zero_or_pos k with h | h; · rw [h] at ho; simp at ho
                            · exact h
      have h1 : o / k < rows.length := Nat.div_lt_of_lt_mul (by rw [Nat.mul_comm]; exact ho)
      have h5 := hO.free (o / k) rows[o / k] (o % k) (List.getElem?_eq_getElem h1) (by rw [hfull _ (List.getElem_mem h1)]; exact Nat.mod_lt _ hk)
      rwa [Nat.div_add_mod' o k] at h5
    · exact hO.rest o ho
  refine ⟨hO.low, fun _ _ _ _ _ => hno _, fun o _ => hno o, fun r hr => .inl (hfull r (List.mem_of_mem_take hr)), by have := hO.fits; simp only [List.length_take]; simp only at this; omega, hO.cmax, vs', e, fz, h2, by rw [h3]; exact hvs, fun o ho => hfz o (by omega), fun n r j a hr ha => ?_⟩
  have hn : n < i := by
    have := (List.getElem?_eq_some_iff.1 hr).1
    simp only [List.length_take] at this; omega
  have hr' : rows[n]? = some r := by rw [← hr]; exact (List.getElem?_take_of_lt hn).symm
  obtain ⟨h5, v, h6, h7⟩ := hm n r j a hr' ha
  refine ⟨h5, v, ?_, h7⟩
  have hjk : j < k := by rw [← hfull r (List.mem_of_getElem? hr')]; exact (List.getElem?_eq_some_iff.1 ha).1
  have hlt : n * k + j < i * k := by
    have : (n + 1) * k ≤ i * k := Nat.mul_le_mul_right k hn
    rw [Nat.add_mul, Nat.one_mul] at this; omega
  have h6 : vs[n * k + j]? = some v := h6
  show vs'[n * k + j]? = some v
  rw [h4 _ (Array.getElem?_eq_some_iff.1 h6).1, if_neg (by omega)]
  exact h6
end
end Go.Proofs.YthpkjmbdjnelfaaDoor

namespace Go.Proofs.YthpkjmbdjnelfaaDoor
open Go.RowKit
set_option linter.unusedSimpArgs false
set_option linter.unusedVariables false
@[go_sem] theorem mA_one (b k c n : Nat) : (mA b k c n).one = true := by unfold mA; split <;> rfl
@[go_sem] theorem mA_plain (b k c n : Nat) : (mA b k c n).plain = true := by unfold mA; split <;> rfl
@[go_sem] theorem mA_cells (b k c n : Nat) : (mA b k c n).cells = [mA b k c n] := by unfold mA; split <;> rfl
@[go_sem] theorem mA_strip (b k c n : Nat) : (mA b k c n).strip = mA b k c n := by unfold mA; split <;> rfl
@[go_sem] theorem mA_okc (b k c n : Nat) : (mA b k c n).okc = true := by unfold mA; split <;> rfl
/-- a slice is nil, or it is not -/
theorem AC.nnil {P : Program} {T : Tbl} {f : FuncId} {k : Nat} {rows : List (List D)} {h : AH} {R : AR → AH → Prop} (h1 : rows = [] → AC P T f [.nils] h R) (h2 : AC P T f [.nn k rows] h R) : AC P T f [.d (.slc k rows)] h R := by
  refine ⟨h2.call, fun G w vs S Rs => ?_⟩
  obtain ⟨hl, hv⟩ := Rs
  obtain ⟨v, hv0, hv1⟩ := hv 0 _ rfl
  cases hv1 with
  | d hd =>
    obtain ⟨A, c, rfl, hc, hm, hA, _, hx⟩ := hd.slc_inv
    cases A with
    | none =>
      have hc0 := hA rfl
      have hr : rows = [] := List.eq_nil_of_length_eq_zero (by omega)
      subst hr
      subst hc0
      refine (h1 rfl).run G w vs S ⟨hl, fun i a ha => ?_⟩
      match i, ha with
      | 0, ha => simp at ha; subst ha; exact ⟨_, hv0, .nils⟩
      | i + 1, ha => simp at ha
    | some a =>
      refine h2.run G w vs S ⟨hl, fun i x ha => ?_⟩
      match i, ha with
      | 0, ha => simp at ha; subst ha; exact ⟨_, hv0, .nn hd⟩
      | i + 1, ha => simp at ha
section
variable {P : Program} {T : Tbl} {Q : AQ} {sl : List AV}
end
end Go.Proofs.YthpkjmbdjnelfaaDoor

namespace Go.Proofs.YthpkjmbdjnelfaaDoor
open Go.RowKit
set_option linter.unusedSimpArgs false
set_option linter.unusedVariables false
section
variable {P : Program} {T : Tbl} {cp : Bool} {ops : Array Oper} {K : List AV → AH → Prop} {X : AV → AH → Prop} {o : Oper} {rest : List Oper} {sl : List AV} {h : AH}
end
end Go.Proofs.YthpkjmbdjnelfaaDoor

namespace Go.Proofs.YthpkjmbdjnelfaaDoor
open Go.RowKit
set_option linter.unusedSimpArgs false
set_option linter.unusedVariables false
section
variable {P : Program} {T : Tbl} {cp : Bool} {ops : Array Oper} {K : List AV → AH → Prop} {X : AV → AH → Prop} {o : Oper} {rest : List Oper} {sl : List AV} {h : AH}
end
end Go.Proofs.YthpkjmbdjnelfaaDoor

namespace Go.Proofs.YthpkjmbdjnelfaaDoor
open Go.RowKit
set_option linter.unusedSimpArgs false
set_option linter.unusedVariables false
/-- whatever order is picked; until operation e0 comes up, M holds of the heap -/
def AAnyM (P : Program) (T : Tbl) (cp : Bool) (md : Region.Mode) (ops : Array Oper) (e0 : Nat) (M : AH → Prop) (K : List AV → AH → Prop) (X : AV → AH → Prop) : Nat → Array Bool → List AV → AH → Prop
  | 0, listed, sl, h => (listed.getD e0 false = false → M h) ∧ Region.ready md ops listed = [] ∧ K sl h
  | fuel + 1, listed, sl, h => (listed.getD e0 false = false → M h) ∧ (Region.ready md ops listed = [] → K sl h) ∧ ∀ i ∈ Region.ready md ops listed, aOp P T cp ops X i (AAnyM P T cp md ops e0 M K X fuel (listed.setIfInBounds i true)) sl h
section
variable {P : Program} {T : Tbl} {cp : Bool} {md : Region.Mode} {ops : Array Oper} {K : List AV → AH → Prop} {X : AV → AH → Prop}
theorem AAnyM.any {e0 : Nat} {M : AH → Prop} : ∀ (fuel : Nat) (listed : Array Bool) (sl : List AV) (h : AH), AAnyM P T cp md ops e0 M K X fuel listed sl h → AAny P T cp md ops K X fuel listed sl h
  | 0, _, _, _, H => H.2
  | fuel + 1, listed, sl, h, H => ⟨H.2.1, fun i hi => by
    have h1 := H.2.2 i hi
    unfold aOp at h1 ⊢
    split
    · rename_i e
      rw [e] at h1
      exact AAnyM.any fuel _ _ _ h1
    · rename_i o e
      rw [e] at h1
      dsimp only at h1
      split
      · rename_i he
        rw [if_pos he] at h1
        exact h1.monoN fun r h' hN => AAnyM.any fuel _ _ _ hN
      · rename_i he
        rw [if_neg he] at h1
        obtain ⟨u, g1, g2, g3⟩ := h1
        exact ⟨u, g1, g2, AAnyM.any fuel _ _ _ g3⟩⟩
theorem e0_un {i e0 : Nat} {listed : Array Bool} (hd : DC md ops listed) (hr : i ∈ Region.ready md ops listed) (hw : waits md ops ops.size e0 i = true) (he : ∃ o0, ops[e0]? = some o0) : listed.getD e0 false = false := by
  obtain ⟨o0, he⟩ := he
  have hiun := getD_false_of (mem_ready.1 hr).1
  cases hl : listed.getD e0 false with
  | false => rfl
  | true =>
    rw [waits_listed hd hiun _ e0 o0 he (hd _ _ he hl)] at hw
    cases hw
theorem getD_true_set {listed : Array Bool} {e0 i : Nat} (h : listed.getD e0 false = true) : (listed.setIfInBounds i true).getD e0 false = true := by
  by_cases hi : i = e0
  · subst hi
    exact getD_set_true h
  · rw [getD_set_ne false hi]; exact h
theorem AAny.toM {e0 : Nat} {M : AH → Prop} : ∀ (fuel : Nat) (listed : Array Bool) (sl : List AV) (h : AH), listed.getD e0 false = true → AAny P T cp md ops K X fuel listed sl h → AAnyM P T cp md ops e0 M K X fuel listed sl h
  | 0, _, _, _, hl, H => ⟨fun e => (by rw [hl] at e; cases e), H⟩
  | fuel + 1, listed, sl, h, hl, H => ⟨fun e => (by rw [hl] at e; cases e), H.1, fun i hi => by
    have h1 := H.2 i hi
    have hl' := getD_true_set (i := i) hl
    unfold aOp at h1 ⊢
    split
    · rename_i e
      rw [e] at h1
      exact AAny.toM fuel _ _ _ hl' h1
    · rename_i o e
      rw [e] at h1
      dsimp only at h1
      split
      · rename_i he
        rw [if_pos he] at h1
        exact h1.monoN fun r h' hN => AAny.toM fuel _ _ _ hl' hN
      · rename_i he
        rw [if_neg he] at h1
        obtain ⟨u, g1, g2, g3⟩ := h1
        exact ⟨u, g1, g2, AAny.toM fuel _ _ _ hl' g3⟩⟩
end
end Go.Proofs.YthpkjmbdjnelfaaDoor

namespace Go.Proofs.YthpkjmbdjnelfaaDoor
open Go.RowKit
set_option linter.unusedSimpArgs false
set_option linter.unusedVariables false
section
variable {P : Program} {T : Tbl} {cp : Bool} {md : Region.Mode} {ops : Array Oper} {K : List AV → AH → Prop} {X : AV → AH → Prop}
theorem AAnyM.freeN {i : Nat} {oi : Oper} {v : AV} {e0 : Nat} {M : AH → Prop} (hne0 : i ≠ e0) (hw0 : hiK oi = true ∨ waits md ops ops.size e0 i = true) (he0 : ∃ o0, ops[e0]? = some o0) (hi : ops[i]? = some oi) (hni : effK cp oi = false) : ∀ (fuel : Nat) (listed : Array Bool) (sl : List AV) (h : AH), DC md ops listed →
    (∀ j oj, ops[j]? = some oj → j ≠ i → listed.getD j true = false → waits md ops ops.size j i = false → oi.apart ops oj = true) →
    i ∈ Region.ready md ops listed → (∀ h', (hiK oi = false → M h') → Yg P T ops oi v sl h') →
    AAnyM P T cp md ops e0 M K X fuel (listed.setIfInBounds i true) (putA oi.dst v sl) h → AAnyM P T cp md ops e0 M K X (fuel + 1) listed sl h := by
  intro fuel
  induction fuel with
  | zero =>
    intro listed sl h hdc _ hr hy H
    have hMu : listed.getD e0 false = false → M h := fun e => H.1 (by rw [getD_set_ne false hne0]; exact e)
    have hM : hiK oi = false → M h := fun e => hMu (hw0.elim (fun t => by rw [e] at t; cases t) fun t => e0_un hdc hr t he0)
    refine ⟨hMu, fun h0 => (by rw [h0] at hr; cases hr), fun j hj => ?_⟩
    by_cases hji : j = i
    · subst hji
      unfold aOp
      rw [hi]
      dsimp only
      rw [if_neg (by rw [hni]; simp)]
      exact ⟨v, hy h hM, fun hh h' => hy h' (fun e => by rw [e] at hh; cases hh), H⟩
    · have := ready_mono hj hji
      rw [H.2.1] at this
      cases this
  | succ fuel ih =>
    intro listed sl h hdc hfree hr hy H
    have hMu : listed.getD e0 false = false → M h := fun e => H.1 (by rw [getD_set_ne false hne0]; exact e)
    have hM : hiK oi = false → M h := fun e => hMu (hw0.elim (fun t => by rw [e] at t; cases t) fun t => e0_un hdc hr t he0)
    refine ⟨hMu, fun h0 => (by rw [h0] at hr; cases hr), fun j hj => ?_⟩
    by_cases hji : j = i
    · subst hji
      unfold aOp
      rw [hi]
      dsimp only
      rw [if_neg (by rw [hni]; simp)]
      exact ⟨v, hy h hM, fun hh h' => hy h' (fun e => by rw [e] at hh; cases hh), H⟩
    · have h1 := H.2.2 j (ready_mono hj hji)
      obtain ⟨hjun, oj, hoj, hall⟩ := mem_ready.1 hj
      have hiun := getD_false_of (mem_ready.1 hr).1
      have hap := hfree j oj hoj hji hjun (waits_listed hdc hiun _ _ _ hoj hall)
      obtain ⟨a1, a2, a3⟩ := Oper.apart_spec hap
      have hfree' : ∀ k ok, ops[k]? = some ok → k ≠ i → (listed.setIfInBounds j true).getD k true = false → waits md ops ops.size k i = false → oi.apart ops ok = true := fun k ok hk hki hun hw => by
        refine hfree k ok hk hki ?_ hw
        by_cases hjk : j = k
        · subst hjk; exact hjun
        · rw [getD_set_ne true hjk] at hun; exact hun
      have next : ∀ (u : AV) (h' : AH), AAnyM P T cp md ops e0 M K X fuel ((listed.setIfInBounds i true).setIfInBounds j true) (putA oj.dst u (putA oi.dst v sl)) h' → AAnyM P T cp md ops e0 M K X (fuel + 1) (listed.setIfInBounds j true) (putA oj.dst u sl) h' := fun u h' hN => by
        refine ih (listed.setIfInBounds j true) (putA oj.dst u sl) h' (hdc.step hj) hfree' (ready_mono hr (Ne.symm hji)) (fun h2 m2 => (hy h2 m2).put a3) ?_
        rw [Array.setIfInBounds_comm _ _ hji, putA_comm a2]
        exact hN
      unfold aOp at h1 ⊢
      rw [hoj] at h1 ⊢
      dsimp only at h1 ⊢
      split
      · rename_i he
        rw [if_pos he] at h1
        exact h1.unput a1 fun r h' hN => next r h' hN
      · rename_i he
        rw [if_neg he] at h1
        obtain ⟨u, g1, g2, g3⟩ := h1
        exact ⟨u, g1.unput a1, fun hk h2 => (g2 hk h2).unput a1, next u h g3⟩
/-- operations before e0, each the only one that is ready: M holds behind each; then e0 and what is left -/
def CHN (P : Program) (T : Tbl) (cp : Bool) (ops : Array Oper) (M : AH → Prop) (lz : List Oper) (K : List AV → AH → Prop) (X : AV → AH → Prop) : List Oper → List AV → AH → Prop
  | [], s, h => DW P T cp ops lz s h K X
  | o :: l, s, h => DW P T cp ops [o] s h (fun s2 h2 => M h2 ∧ CHN P T cp ops M lz K X l s2 h2) X
def ordCN (cp : Bool) (md : Region.Mode) (ops : Array Oper) (e0 : Nat) (ord2 : List Nat) : List Nat → Array Bool → Bool
  | [], listed => ordB cp md ops (e0 :: ord2) listed
  | i :: r, listed => (Region.ready md ops listed == [i]) && ordCN cp md ops e0 ord2 r (listed.setIfInBounds i true)
theorem CHN.any {e0 : Nat} {oe : Oper} {M : AH → Prop} {ord2 : List Nat} {l2 : List Oper} (hoe : ops[e0]? = some oe) (hee : effK cp oe = true) (hl2 : l2.length = ord2.length) (hm2 : ∀ (n i : Nat), ord2[n]? = some i → l2[n]? = ops[i]?) : ∀ (ord : List Nat) (l : List Oper) (listed : Array Bool) (sl : List AV) (h : AH), l.length = ord.length → (∀ (n i : Nat), ord[n]? = some i → l[n]? = ops[i]?) → DC md ops listed → ordCN cp md ops e0 ord2 ord listed = true → M h →
    CHN P T cp ops M (oe :: l2) K X l sl h → AAnyM P T cp md ops e0 M K X (ord.length + (ord2.length + 1)) listed sl h
  | [], [], listed, sl, h, _, _, hdc, hB, hM, H => by
    unfold ordCN ordB at hB
    rw [hoe] at hB
    simp only [Bool.and_eq_true, hee, if_true] at hB
    obtain ⟨⟨hr, hf⟩, hB'⟩ := hB
    have hr : e0 ∈ Region.ready md ops listed := by simpa using hr
    have hone : Region.ready md ops listed = [e0] := by simpa using hf
    rw [List.length_nil, Nat.zero_add]
    refine ⟨fun _ => hM, fun h0 => (by rw [h0] at hr; cases hr), fun j hj => ?_⟩
    rw [hone] at hj
    have hj : j = e0 := by simpa using hj
    subst hj
    unfold aOp
    rw [hoe]
    dsimp only
    rw [if_pos hee]
    have H : DW P T cp ops (oe :: l2) sl h K X := H
    unfold DW at H
    rw [if_pos hee] at H
    have hlt : j < listed.size := by
      rcases Nat.lt_or_ge j listed.size with h1 | h1
      · exact h1
      · have := (mem_ready.1 hr).1
        simp [Array.getElem?_eq_none h1] at this
    exact H.monoN fun r h' hN => AAny.toM _ _ _ _ (by simp [hlt]) (DW.any ord2 l2 _ _ _ hl2 hm2 (hdc.step hr) hB' hN)
  | [], _ :: _, _, _, _, hl, _, _, _, _, _ => by simp at hl
  | _ :: _, [], _, _, _, hl, _, _, _, _, _ => by simp at hl
  | i :: ord, o :: l, listed, sl, h, hl, hmap, hdc, hB, hM, H => by
    have hi : ops[i]? = some o := (hmap 0 i rfl).symm
    unfold ordCN at hB
    simp only [Bool.and_eq_true] at hB
    obtain ⟨hf, hB'⟩ := hB
    have hone : Region.ready md ops listed = [i] := by simpa using hf
    have hr : i ∈ Region.ready md ops listed := by rw [hone]; exact List.mem_cons_self ..
    rw [List.length_cons, Nat.succ_add]
    have next : ∀ (s2 : List AV) (h2 : AH), M h2 ∧ CHN P T cp ops M (oe :: l2) K X l s2 h2 → AAnyM P T cp md ops e0 M K X (ord.length + (ord2.length + 1)) (listed.setIfInBounds i true) s2 h2 := fun s2 h2 hN =>
      CHN.any hoe hee hl2 hm2 ord l _ _ _ (by simpa using hl) (fun n k e => by simpa using hmap (n + 1) k (by simpa using e)) (hdc.step hr) hB' hN.1 hN.2
    refine ⟨fun _ => hM, fun h0 => (by rw [h0] at hr; cases hr), fun j hj => ?_⟩
    rw [hone] at hj
    have hj : j = i := by simpa using hj
    subst hj
    have H : DW P T cp ops [o] sl h (fun s2 h2 => M h2 ∧ CHN P T cp ops M (oe :: l2) K X l s2 h2) X := H
    unfold DW at H
    unfold aOp
    rw [hi]
    dsimp only
    split
    · rename_i he
      rw [if_pos he] at H
      refine H.monoN fun r h' hN => ?_
      unfold DW at hN
      exact next _ _ hN
    · rename_i he
      rw [if_neg he] at H
      obtain ⟨v, g1, g2, g3⟩ := H
      unfold DW at g3
      exact ⟨v, g1, g2, next _ _ g3⟩
/-- the free operations, one behind the other -/
def FRN (P : Program) (T : Tbl) (ops : Array Oper) (M : AH → Prop) (K : List AV → Prop) : List Oper → List AV → Prop
  | [], s => K s
  | o :: r, s => ∃ v, (∀ h', (hiK o = false → M h') → Yg P T ops o v s h') ∧ FRN P T ops M K r (putA o.dst v s)
theorem FRN.mono {M : AH → Prop} {K K' : List AV → Prop} (hK : ∀ s, K s → K' s) : ∀ {lf : List Oper} {s : List AV}, FRN P T ops M K lf s → FRN P T ops M K' lf s
  | [], s, H => hK s H
  | _ :: _, _, ⟨v, hv, H⟩ => ⟨v, hv, FRN.mono hK H⟩
theorem FRN.nil {M : AH → Prop} {K : List AV → Prop} {s : List AV} (H : K s) : FRN P T ops M K [] s := H
theorem FRN.ld {M : AH → Prop} {K : List AV → Prop} {o : Oper} {r : List Oper} {s : List AV} {v : AV} (hl : hiK o = false) (hg : o.guard = none) (hv : ∀ h', M h' → okV (opP P o.op (ev T s) h') v) (H : FRN P T ops M K r (putA o.dst v s)) : FRN P T ops M K (o :: r) s :=
  ⟨v, fun h' hm => Yg.of_okV hg (hv h' (hm hl)), H⟩
theorem FRN.op {M : AH → Prop} {K : List AV → Prop} {o : Oper} {r : List Oper} {s : List AV} {v : AV} (hg : o.guard = none) (hv : ∀ h', okV (opP P o.op (ev T s) h') v) (H : FRN P T ops M K r (putA o.dst v s)) : FRN P T ops M K (o :: r) s :=
  ⟨v, fun h' hm => Yg.of_okV hg (hv h'), H⟩
theorem FRN.call {M : AH → Prop} {K : List AV → Prop} {o : Oper} {rest : List Oper} {s : List AV} {c : Call} {fo : Operand} {f : FuncId} {cap args : List AV} {r : AV} (ho : o.op = .call c) (hg : o.guard = none) (hc : c.callee = .value fo) (hf : ev T s fo = .fn f cap)
    (C : PC P T f args r) (ha : (c.args.toList.map (ev T s) ++ cap).map frzA = args) (hk : (c.args.toList.map (ev T s) ++ cap).all okF = true) (H : FRN P T ops M K rest (putA o.dst r s)) : FRN P T ops M K (o :: rest) s :=
  ⟨r, fun h' _ => by unfold Yg; rw [hg]; exact AYv.pc ho hc hf C (by rw [← ha]; exact LeL.frz hk), H⟩
def ordFN (cp : Bool) (md : Region.Mode) (ops : Array Oper) (e0 : Nat) : List Nat → Array Bool → Bool
  | [], _ => true
  | i :: r, listed => (Region.ready md ops listed).contains i && (match ops[i]? with
    | some o => !effK cp o && (hiK o || waits md ops ops.size e0 i)
    | none => false) && freeB md ops listed i && !(i == e0) && ordFN cp md ops e0 r (listed.setIfInBounds i true)
theorem AAnyM.frn {fuel : Nat} {e0 : Nat} {M : AH → Prop} (hoe : ∃ o, ops[e0]? = some o) {K2 : List AV → Prop} {h : AH} :
    ∀ (fr : List Nat) (lf : List Oper) (listed : Array Bool) (s : List AV), lf.length = fr.length → (∀ (n i : Nat), fr[n]? = some i → lf[n]? = ops[i]?) → DC md ops listed → ordFN cp md ops e0 fr listed = true →
      (∀ s, DC md ops (lst fr listed) → K2 s → AAnyM P T cp md ops e0 M K X fuel (lst fr listed) s h) → FRN P T ops M K2 lf s → AAnyM P T cp md ops e0 M K X (fr.length + fuel) listed s h
  | [], [], listed, s, _, _, hdc, hB, hc, H => by
    rw [List.length_nil, Nat.zero_add]
    exact hc s hdc H
  | [], _ :: _, _, _, hlen, _, _, _, _, _ => by simp at hlen
  | _ :: _, [], _, _, hlen, _, _, _, _, _ => by simp at hlen
  | i :: fr, o :: lf, listed, s, hlen, hm, hdc, hB, hc, H => by
    have hi : ops[i]? = some o := (hm 0 i rfl).symm
    unfold ordFN at hB
    rw [hi] at hB
    simp only [Bool.and_eq_true, Bool.not_eq_true', Bool.or_eq_true] at hB
    obtain ⟨⟨⟨⟨hr, he, hw⟩, hf⟩, hne⟩, hB⟩ := hB
    have hr : i ∈ Region.ready md ops listed := by simpa using hr
    have hne : i ≠ e0 := by simpa using hne
    obtain ⟨v, hv, H⟩ := H
    rw [List.length_cons, Nat.succ_add]
    exact AAnyM.freeN hne hw hoe hi he _ listed s h hdc (freeB_spec hi hf) hr hv (AAnyM.frn hoe fr lf _ _ (by simpa using hlen) (fun n k e => by simpa using hm (n + 1) k (by simpa using e)) (hdc.step hr) hB hc H)
def ordOkN (cp : Bool) (ops : List Oper) (ord1 fr cs : List Nat) (e0 : Nat) (ord2 : List Nat) : Bool :=
  let A := ops.toArray
  let L0 := Array.replicate ops.length false
  let L1 := lst ord1 L0
  ord1.length + (fr.length + (cs.length + (ord2.length + 1))) == ops.length && ord1.all (fun i => decide (i < ops.length)) && cs.all (fun i => decide (i < ops.length)) && fr.all (fun i => decide (i < ops.length)) && ord2.all (fun i => decide (i < ops.length)) && ordPre cp .any A ord1 L0 && (match ops[e0]? with | some o => effK cp o | none => false) && ordFN cp .any A e0 fr L1 && ordCN cp .any A e0 ord2 cs (lst fr L1)
theorem AWp.drawN {id : Nat} {l : List Oper} {Q : AQ} {sl : List AV} {h : AH} (cp : Bool) (ord1 fr cs : List Nat) (e0 : Nat) (ord2 : List Nat) {oe : Oper} (hm : P.follows .mixedOrders = true) (hB : ordOkN cp l ord1 fr cs e0 ord2 = true) (hoe : l[e0]? = some oe)
    (H : lvc P T cp l.toArray (pick l ord1) sl h (fun s1 h1 => ∃ M : AH → Prop, M h1 ∧ FRN P T l.toArray M (fun s2 => CHN P T cp l.toArray M (oe :: pick l ord2) (fun s h => Q .normal s h) (fun p h => ∀ s, Q (.pan p) s h) (pick l cs) s2 h1) (pick l fr) s1) (fun p h => ∀ s, Q (.pan p) s h)) :
    AWp P T (.region id l.toArray true) Q sl h := by
  simp only [ordOkN, hoe, Bool.and_eq_true, beq_iff_eq] at hB
  obtain ⟨⟨⟨⟨⟨⟨⟨⟨hlen, hall1⟩, hall2⟩, hall3⟩, hall4⟩, hpre⟩, hee⟩, hch⟩, hbb⟩ := hB
  have hlt1 : ∀ i ∈ ord1, i < l.length := fun i hi => by simpa using List.all_eq_true.1 hall1 i hi
  have hlt2 : ∀ i ∈ cs, i < l.length := fun i hi => by simpa using List.all_eq_true.1 hall2 i hi
  have hlt3 : ∀ i ∈ fr, i < l.length := fun i hi => by simpa using List.all_eq_true.1 hall3 i hi
  have hlt4 : ∀ i ∈ ord2, i < l.length := fun i hi => by simpa using List.all_eq_true.1 hall4 i hi
  obtain ⟨p1, p2⟩ := pick_spec hlt1
  obtain ⟨q1, q2⟩ := pick_spec hlt2
  obtain ⟨r1, r2⟩ := pick_spec hlt3
  obtain ⟨z1, z2⟩ := pick_spec hlt4
  have hdc0 : DC .any l.toArray (Array.replicate l.length false) := fun j o _ hj => by
    simp [Array.getElem?_replicate] at hj
    split at hj <;> simp at hj
  refine AWp.of_lift fun G w a S R => wp_region_any hm ?_
  have hany := DW.anyP (P := P) (T := T) (cp := cp) (K := fun s h => Q .normal s h) (X := fun p h => ∀ s, Q (.pan p) s h) (fuel := fr.length + (cs.length + (ord2.length + 1))) ord1 (pick l ord1) (Array.replicate l.length false) sl h p1 (fun n i e => by rw [p2 n i e]; simp) hdc0 hpre
    (DW.monoK (fun s1 h1 ⟨M, hM, hh⟩ => AAnyM.any (M := M) (e0 := e0) _ _ _ _ (AAnyM.frn ⟨oe, by simpa using hoe⟩ fr (pick l fr) _ s1 r1 (fun n c e => by rw [r2 n c e]; simp) (hdc0.lst (cp := cp) ord1 hpre) hch (fun s hdc hs => CHN.any (oe := oe) (l2 := pick l ord2) (by simpa using hoe) hee z1 (fun n c e => by rw [z2 n c e]; simp) cs (pick l cs) _ s h1 q1 (fun n i e => by rw [q2 n i e]; simp) hdc hbb hM hs) hh)) _ _ _ (lvc_ok _ _ _ H))
  rw [hlen] at hany
  have := AAny.wp _ _ _ _ hany G G w.drew a a.defers (Gle.refl G) S.drew R rfl
  simpa using this
theorem AWp.dsN {id : Nat} {l : List Oper} {y : Code} {Q : AQ} {sl : List AV} {h : AH} (cp : Bool) (ord1 fr cs : List Nat) (e0 : Nat) (ord2 : List Nat) {oe : Oper} (hm : P.follows .mixedOrders = true) (hB : ordOkN cp l ord1 fr cs e0 ord2 = true) (hoe : l[e0]? = some oe)
    (H : ∀ K : List AV → AH → Prop, (∀ s h, AWp P T y Q s h → K s h) → lvc P T cp l.toArray (pick l ord1) sl h (fun s1 h1 => ∃ M : AH → Prop, M h1 ∧ FRN P T l.toArray M (fun s2 => CHN P T cp l.toArray M (oe :: pick l ord2) K (fun p h => ∀ s, Q (.pan p) s h) (pick l cs) s2 h1) (pick l fr) s1) (fun p h => ∀ s, Q (.pan p) s h)) :
    AWp P T (.seq (.region id l.toArray true) y) Q sl h := AWp.seq fun K hK => AWp.drawN cp ord1 fr cs e0 ord2 hm hB hoe (H K hK)
end
attribute [go_sem] CHN
end Go.Proofs.YthpkjmbdjnelfaaDoor

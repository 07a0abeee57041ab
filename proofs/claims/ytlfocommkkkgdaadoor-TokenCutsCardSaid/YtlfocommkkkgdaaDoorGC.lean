/- Texts that the laws rest on, packed. -/
import Derived.Test.YtlfocommkkkgdaaDoorGB
import Derived.MapKept
namespace Go.Proofs.YtlfocommkkkgdaaDoor
open Go.RowKit
set_option linter.unusedSimpArgs false
set_option linter.unusedVariables false
/-- a slice over an object's rows; no rows: nil -/
def mA (b k c n : Nat) : AV := if c = 0 then .full k [] else .arr b k n c
def dRows (src : List (List D)) : List (List AV) := src.map fun r => r.map .d
section
variable {P : Program} {T : Tbl} {G : Gh} {h : AH} {w : World}
/-- cells of rows -/
def ARows (G : Gh) (k : Nat) (src : List (List AV)) (cells : List Value) : Prop :=
  cells.length = src.length * k ∧ (∀ r ∈ src, r.length = k) ∧ (∀ v ∈ cells, v.oneCell' = true) ∧ ∀ (i : Nat) (r : List AV) (j : Nat) (a : AV), src[i]? = some r → r[j]? = some a → a.one = true ∧ ∃ v, cells[i * k + j]? = some v ∧ VR G a v
theorem dRows_get {src : List (List D)} {i : Nat} {r : List AV} (h : (dRows src)[i]? = some r) : ∃ q, src[i]? = some q ∧ r = q.map .d := by
  unfold dRows at h
  rw [List.getElem?_map] at h
  obtain ⟨q, h1, h2⟩ := Option.map_eq_some_iff.1 h
  exact ⟨q, h1, h2.symm⟩
@[go_sem] theorem dRows_len (src : List (List D)) : (dRows src).length = src.length := by simp [dRows]
theorem CellRows.a {k : Nat} {src : List (List D)} {cells : List Value} (h : CellRows G.frz k src cells) : ARows G k (dRows src) cells :=
  ⟨by rw [dRows_len]; exact h.1, fun r hr => by
    obtain ⟨q, hq, rfl⟩ := List.mem_map.1 hr
    rw [List.length_map]; exact h.2.1 q hq, h.2.2.1, fun i r j a e1 e2 => by
    obtain ⟨q, h1, rfl⟩ := dRows_get e1
    rw [List.getElem?_map] at e2
    obtain ⟨d, hd, rfl⟩ := Option.map_eq_some_iff.1 e2
    obtain ⟨v, h3, h4⟩ := h.2.2.2 _ _ _ _ h1 hd
    exact ⟨rfl, v, h3, .d h4⟩⟩
variable {sl : List AV} {ops : Array Oper} {rest : List Oper} {o : Oper} {K : List AV → AH → Prop} {X : AV → AH → Prop} {cp : Bool} {Q : AQ}
end
end Go.Proofs.YtlfocommkkkgdaaDoor

namespace Go.Proofs.YtlfocommkkkgdaaDoor
open Go.RowKit
set_option linter.unusedSimpArgs false
set_option linter.unusedVariables false
section
variable {P : Program} {T : Tbl} {c : Code} {Q : AQ} {h : AH}
theorem AWp.nd {sl : List AV} (H : (h.objs.map Prod.fst).Nodup → AWp P T c Q sl h) : AWp P T c Q sl h := fun G w a S R => H S.nd G w a S R
end
end Go.Proofs.YtlfocommkkkgdaaDoor

namespace Go.Proofs.YtlfocommkkkgdaaDoor
open Go.RowKit
set_option linter.unusedSimpArgs false
set_option linter.unusedVariables false
section
variable {P : Program} {T : Tbl} {Q : AQ}
end
end Go.Proofs.YtlfocommkkkgdaaDoor

namespace Go.Proofs.YtlfocommkkkgdaaDoor
open Go.RowKit
set_option linter.unusedSimpArgs false
set_option linter.unusedVariables false
section
variable {P : Program} {T : Tbl} {ops : Array Oper} {K : List AV → AH → Prop} {X : AV → AH → Prop} {o : Oper} {rest : List Oper} {sl : List AV} {h : AH}
theorem DW.listB {cp : Bool} (post : List Oper) : ∀ (pre : List Oper) (sl : List AV) (h : AH), DW P T cp ops pre sl h (fun s h => LV P T ops post s h K X) X → LV P T ops (pre ++ post) sl h K X
  | [], sl, h, H => H
  | o :: rest, sl, h, H => by
    intro G0 G w a ds hG S R hd
    unfold DW at H
    split at H
    · obtain ⟨hg, H⟩ := H
      refine wpList_plain hg fun K' hK' => H G w a S (fun x _ => ev_ok S R x) K' _ (fun r h' G' u w' hr hG' S' hu => ?_) (fun p h' G' u w' hp hG' S' hu => ?_)
      · exact hK' _ _ (DW.listB post rest _ _ hr G0 G' w' _ ds (hG.trans hG') S' ((R.mono hG').put hu o.dst) (by rw [put_defers]; exact hd))
      · exact ⟨hd, .pan p, sl, h', G', hp, ⟨u, rfl, hu⟩, hG.trans hG', S', R.mono hG'⟩
    · obtain ⟨v, hy, _, hr⟩ := H
      refine wpList_step fun K' hK' => hy.run S R fun G' u w' hG' S' hu => ?_
      exact hK' _ _ (DW.listB post rest _ _ hr G0 G' w' _ ds (hG.trans hG') S' ((R.mono hG').put hu o.dst) (by rw [put_defers]; exact hd))
/-- a call whose guard is false -/
theorem DW.skipc {cp : Bool} {g : Nat × Bool} (hg : o.guard = some g) (ht : gdA ops sl g.1 g.2 = some false) (k : Go.Proofs.YtlfocommkkkgdaaDoor.lvc P T cp ops rest (putA o.dst (.cnd false .undef) sl) h K X) : DW P T cp ops (o :: rest) sl h K X := by
  unfold DW
  rw [if_neg (by unfold effK; rw [hg]; simp)]
  exact ⟨.cnd false .undef, by unfold Yg; rw [hg]; exact ⟨false, .undef, ht, rfl, fun e => by cases e⟩, fun _ h' => by unfold Yg; rw [hg]; exact ⟨false, .undef, ht, rfl, fun e => by cases e⟩, lvc_ok rest _ _ k⟩
theorem LV.lvc {l : List Oper} (H : lvc P T false ops l sl h K X) : LV P T ops l sl h K X := DW.list l sl h (lvc_ok l sl h H)
theorem LV.leH {l : List Oper} {h' : AH} (p : LeH h h') (H : LV P T ops l sl h' K X) : LV P T ops l sl h K X := fun G0 G w a ds hG S R hd => H G0 G w a ds hG (p _ _ _ S) R hd
theorem LV.gcall {c : Call} {fo : Operand} {f : FuncId} {cap args : List AV} {g : Nat × Bool} {h0 : AH} {R : AR → AH → Prop} (ho : o.op = .call c) (hg : o.guard = some g) (ht : gdA ops sl g.1 g.2 = some true) (hc : c.callee = .value fo) (hf : evs T sl fo = .fn f cap)
    (hok : okL T sl (fo :: c.args.toList) = true) (p : LeH h h0) (ha : c.args.toList.map (evs T sl) ++ cap = args) (C : AC P T f args h0 R)
    (k : ∀ x h', R x h' → match x with
      | .ret r => LV P T ops rest (putA o.dst (.cnd true r) sl) h' K X
      | .pan p => X p h') : LV P T ops (o :: rest) sl h K X := by
  intro G0 G w a ds hG S R hd
  refine wpList_step fun K' hK' => ?_
  rw [gdA_ok R ht hg, if_pos rfl]
  obtain ⟨vs, hrun, hvs⟩ := run_call (ρ := evs T sl) ho hc hf (a := a) (fun x hx => (ev_ok S R x).strip (okL_mem hok (by
    rw [ho] at hx
    simpa [Op.operands, Call.operands, hc] using hx))) C.call
  rw [ha] at hvs
  unfold Oper.wp
  rw [hrun]
  refine (C.run G w vs (p _ _ _ S) hvs).mono ?_
  rintro e w' ⟨x, h', G', hR, hG', S', hx⟩
  have hk := k x h' hR
  cases x with
  | ret r =>
    obtain ⟨v, rfl, hv⟩ := hx
    exact hK' _ _ (hk G0 G' w' _ ds (hG.trans hG') S' ((R.mono hG').put (.cndT hv) o.dst) (by rw [put_defers]; exact hd))
  | pan q =>
    obtain ⟨v, rfl, hv⟩ := hx
    exact ⟨hd, .pan q, sl, h', G', hk, ⟨v, rfl, hv⟩, hG.trans hG', S', R.mono hG'⟩
/-- a region whose second part is walked by the machine's own steps -/
theorem AWp.regG {id : Nat} {l : List Oper} {Q : AQ} (i : Nat) (H : Go.Proofs.YtlfocommkkkgdaaDoor.lvc P T false l.toArray (l.take i) sl h (fun s h => LV P T l.toArray (l.drop i) s h (fun s h => Q .normal s h) (fun p h => ∀ s, Q (.pan p) s h)) (fun p h => ∀ s, Q (.pan p) s h)) : AWp P T (.region id l.toArray false) Q sl h :=
  AWp.of_lift fun G w a S R => by
    have h1 := DW.listB (P := P) (T := T) (ops := l.toArray) (K := fun s h => Q .normal s h) (X := fun p h => ∀ s, Q (.pan p) s h) (l.drop i) (l.take i) sl h (lvc_ok _ sl h H)
    rw [List.take_append_drop] at h1
    exact wp_region_lit (h1 G G w a a.defers (Gle.refl G) S R rfl)
theorem AWp.rsG {id : Nat} {l : List Oper} {y : Code} {Q : AQ} (i : Nat) (H : ∀ K : List AV → AH → Prop, (∀ s h, AWp P T y Q s h → K s h) → Go.Proofs.YtlfocommkkkgdaaDoor.lvc P T false l.toArray (l.take i) sl h (fun s h => LV P T l.toArray (l.drop i) s h K (fun p h => ∀ s, Q (.pan p) s h)) (fun p h => ∀ s, Q (.pan p) s h)) : AWp P T (.seq (.region id l.toArray false) y) Q sl h :=
  AWp.seq fun K hK => AWp.regG i (H K hK)
end
end Go.Proofs.YtlfocommkkkgdaaDoor

namespace Go.Proofs.YtlfocommkkkgdaaDoor
open Go.RowKit
set_option linter.unusedSimpArgs false
set_option linter.unusedVariables false
section
variable {P : Program} {T : Tbl} {ops : Array Oper} {K : List AV → AH → Prop} {X : AV → AH → Prop} {o o2 : Oper} {rest : List Oper} {sl : List AV} {h : AH}
theorem ObR.cut {G : Gh} {w w' : World} {b k c i : Nat} {rows : List (List AV)} {zs : List Value} (hO : ObR G w b ⟨k, c, rows⟩) (hfull : ∀ r ∈ rows, r.length = k) (hi : i ≤ rows.length) (hw : w' = w.setCells b (i * k) zs) : ObR G w' b ⟨k, c, rows.take i⟩ := by
  subst hw
  obtain ⟨vs, e, fz, hh, hvs, hfz, hm⟩ := hO.mem
  obtain ⟨vs', h2, h3, h4⟩ := setCells_heap b zs (i * k) w vs e fz hh
  have hno : ∀ o, G.frz b o = none := fun o => by
    rcases Nat.lt_or_ge o (rows.length * k) with ho | ho
    · have hk : 0 < k := by rcases Nat.eq_zero_or_pos k with h | h; · rw [h] at ho; simp at ho
                            · exact h
      have h1 : o / k < rows.length := Nat.div_lt_of_lt_mul (by rw [Nat.mul_comm]; exact ho)
      have h5 := hO.free (o / k) rows[o / k] (o % k) (List.getElem?_eq_getElem h1) (by rw [hfull _ (List.getElem_mem h1)]; exact Nat.mod_lt _ hk)
      rwa [Nat.div_add_mod' o k] at h5
    · exact hO.rest o ho
  refine ⟨hO.low, fun _ _ _ _ _ => hno _, fun o _ => hno o, fun r hr => .inl (hfull r (List.mem_of_mem_take hr)), by have := hO.fits; simp only [List.length_take]; simp only at this; omega, hO.cmax, vs', e, fz, h2, by rw [h3]; exact hvs, fun o ho => hfz o (by omega), fun n r j a hr ha => ?_⟩
  have hn : n < i := by
    have := (List.getElem?_eq_some_iff.1 hr).1
    simp only [List.length_take] at this; omega
  have hr' : rows[n]? = some r := by rw [← hr]; exact (List.getElem?_take_of_lt hn).symm
  obtain ⟨h5, v, h6, h7⟩ := hm n r j a hr' ha
  refine ⟨h5, v, ?_, h7⟩
  have hjk : j < k := by rw [← hfull r (List.mem_of_getElem? hr')]; exact (List.getElem?_eq_some_iff.1 ha).1
  have hlt : n * k + j < i * k := by
    have : (n + 1) * k ≤ i * k := Nat.mul_le_mul_right k hn
    rw [Nat.add_mul, Nat.one_mul] at this; omega
  have h6 : vs[n * k + j]? = some v := h6
  show vs'[n * k + j]? = some v
  rw [h4 _ (Array.getElem?_eq_some_iff.1 h6).1, if_neg (by omega)]
  exact h6
end
end Go.Proofs.YtlfocommkkkgdaaDoor

namespace Go.Proofs.YtlfocommkkkgdaaDoor
open Go.RowKit
set_option linter.unusedSimpArgs false
set_option linter.unusedVariables false
@[go_sem] theorem mA_one (b k c n : Nat) : (mA b k c n).one = true := by unfold mA; split <;> rfl
@[go_sem] theorem mA_plain (b k c n : Nat) : (mA b k c n).plain = true := by unfold mA; split <;> rfl
@[go_sem] theorem mA_cells (b k c n : Nat) : (mA b k c n).cells = [mA b k c n] := by unfold mA; split <;> rfl
@[go_sem] theorem mA_strip (b k c n : Nat) : (mA b k c n).strip = mA b k c n := by unfold mA; split <;> rfl
@[go_sem] theorem mA_okc (b k c n : Nat) : (mA b k c n).okc = true := by unfold mA; split <;> rfl
section
variable {P : Program} {T : Tbl} {Q : AQ} {sl : List AV}
end
end Go.Proofs.YtlfocommkkkgdaaDoor

namespace Go.Proofs.YtlfocommkkkgdaaDoor
open Go.RowKit
set_option linter.unusedSimpArgs false
set_option linter.unusedVariables false
section
variable {P : Program} {T : Tbl} {cp : Bool} {ops : Array Oper} {K : List AV → AH → Prop} {X : AV → AH → Prop} {o : Oper} {rest : List Oper} {sl : List AV} {h : AH}
end
end Go.Proofs.YtlfocommkkkgdaaDoor

namespace Go.Proofs.YtlfocommkkkgdaaDoor
open Go.RowKit
set_option linter.unusedSimpArgs false
set_option linter.unusedVariables false
section
variable {P : Program} {T : Tbl} {cp : Bool} {ops : Array Oper} {K : List AV → AH → Prop} {X : AV → AH → Prop} {o : Oper} {rest : List Oper} {sl : List AV} {h : AH}
end
end Go.Proofs.YtlfocommkkkgdaaDoor

namespace Go.Proofs.YtlfocommkkkgdaaDoor
open Go.RowKit
set_option linter.unusedSimpArgs false
set_option linter.unusedVariables false
/-- whatever order is picked; until operation e0 comes up, M holds of the heap -/
def AAnyM (P : Program) (T : Tbl) (cp : Bool) (md : Region.Mode) (ops : Array Oper) (e0 : Nat) (M : AH → Prop) (K : List AV → AH → Prop) (X : AV → AH → Prop) : Nat → Array Bool → List AV → AH → Prop
  | 0, listed, sl, h => (listed.getD e0 false = false → M h) ∧ Region.ready md ops listed = [] ∧ K sl h
  | fuel + 1, listed, sl, h => (listed.getD e0 false = false → M h) ∧ (Region.ready md ops listed = [] → K sl h) ∧ ∀ i ∈ Region.ready md ops listed, aOp P T cp ops X i (AAnyM P T cp md ops e0 M K X fuel (listed.setIfInBounds i true)) sl h
section
variable {P : Program} {T : Tbl} {cp : Bool} {md : Region.Mode} {ops : Array Oper} {K : List AV → AH → Prop} {X : AV → AH → Prop}
theorem AAnyM.any {e0 : Nat} {M : AH → Prop} : ∀ (fuel : Nat) (listed : Array Bool) (sl : List AV) (h : AH), AAnyM P T cp md ops e0 M K X fuel listed sl h → AAny P T cp md ops K X fuel listed sl h
  | 0, _, _, _, H => H.2
  | fuel + 1, listed, sl, h, H => ⟨H.2.1, fun i hi => by
    have h1 := H.2.2 i hi
    unfold aOp at h1 ⊢
    split
    · rename_i e
      rw [e] at h1
      exact AAnyM.any fuel _ _ _ h1
    · rename_i o e
      rw [e] at h1
      dsimp only at h1
      split
      · rename_i he
        rw [if_pos he] at h1
        exact h1.monoN fun r h' hN => AAnyM.any fuel _ _ _ hN
      · rename_i he
        rw [if_neg he] at h1
        obtain ⟨u, g1, g2, g3⟩ := h1
        exact ⟨u, g1, g2, AAnyM.any fuel _ _ _ g3⟩⟩
theorem getD_true_set {listed : Array Bool} {e0 i : Nat} (h : listed.getD e0 false = true) : (listed.setIfInBounds i true).getD e0 false = true := by
  by_cases hi : i = e0
  · subst hi
    exact getD_set_true h
  · rw [getD_set_ne false hi]; exact h
theorem AAny.toM {e0 : Nat} {M : AH → Prop} : ∀ (fuel : Nat) (listed : Array Bool) (sl : List AV) (h : AH), listed.getD e0 false = true → AAny P T cp md ops K X fuel listed sl h → AAnyM P T cp md ops e0 M K X fuel listed sl h
  | 0, _, _, _, hl, H => ⟨fun e => (by rw [hl] at e; cases e), H⟩
  | fuel + 1, listed, sl, h, hl, H => ⟨fun e => (by rw [hl] at e; cases e), H.1, fun i hi => by
    have h1 := H.2 i hi
    have hl' := getD_true_set (i := i) hl
    unfold aOp at h1 ⊢
    split
    · rename_i e
      rw [e] at h1
      exact AAny.toM fuel _ _ _ hl' h1
    · rename_i o e
      rw [e] at h1
      dsimp only at h1
      split
      · rename_i he
        rw [if_pos he] at h1
        exact h1.monoN fun r h' hN => AAny.toM fuel _ _ _ hl' hN
      · rename_i he
        rw [if_neg he] at h1
        obtain ⟨u, g1, g2, g3⟩ := h1
        exact ⟨u, g1, g2, AAny.toM fuel _ _ _ hl' g3⟩⟩
end
end Go.Proofs.YtlfocommkkkgdaaDoor

namespace Go.Proofs.YtlfocommkkkgdaaDoor
open Go.RowKit
set_option linter.unusedSimpArgs false
set_option linter.unusedVariables false
section
variable {P : Program} {T : Tbl} {cp : Bool} {md : Region.Mode} {ops : Array Oper} {K : List AV → AH → Prop} {X : AV → AH → Prop}
/-- operations before e0, each the only one that is ready: M holds behind each; then e0 and what is left -/
def CHN (P : Program) (T : Tbl) (cp : Bool) (ops : Array Oper) (M : AH → Prop) (lz : List Oper) (K : List AV → AH → Prop) (X : AV → AH → Prop) : List Oper → List AV → AH → Prop
  | [], s, h => DW P T cp ops lz s h K X
  | o :: l, s, h => DW P T cp ops [o] s h (fun s2 h2 => M h2 ∧ CHN P T cp ops M lz K X l s2 h2) X
def ordCN (cp : Bool) (md : Region.Mode) (ops : Array Oper) (e0 : Nat) (ord2 : List Nat) : List Nat → Array Bool → Bool
  | [], listed => ordB cp md ops (e0 :: ord2) listed
  | i :: r, listed => (Region.ready md ops listed == [i]) && ordCN cp md ops e0 ord2 r (listed.setIfInBounds i true)
theorem CHN.any {e0 : Nat} {oe : Oper} {M : AH → Prop} {ord2 : List Nat} {l2 : List Oper} (hoe : ops[e0]? = some oe) (hee : effK cp oe = true) (hl2 : l2.length = ord2.length) (hm2 : ∀ (n i : Nat), ord2[n]? = some i → l2[n]? = ops[i]?) : ∀ (ord : List Nat) (l : List Oper) (listed : Array Bool) (sl : List AV) (h : AH), l.length = ord.length → (∀ (n i : Nat), ord[n]? = some i → l[n]? = ops[i]?) → DC md ops listed → ordCN cp md ops e0 ord2 ord listed = true → M h →
    CHN P T cp ops M (oe :: l2) K X l sl h → AAnyM P T cp md ops e0 M K X (ord.length + (ord2.length + 1)) listed sl h
  | [], [], listed, sl, h, _, _, hdc, hB, hM, H => by
    unfold ordCN ordB at hB
    rw [hoe] at hB
    simp only [Bool.and_eq_true, hee, if_true] at hB
    obtain ⟨⟨hr, hf⟩, hB'⟩ := hB
    have hr : e0 ∈ Region.ready md ops listed := by simpa using hr
    have hone : Region.ready md ops listed = [e0] := by simpa using hf
    rw [List.length_nil, Nat.zero_add]
    refine ⟨fun _ => hM, fun h0 => (by rw [h0] at hr; cases hr), fun j hj => ?_⟩
    rw [hone] at hj
    have hj : j = e0 := by simpa using hj
    subst hj
    unfold aOp
    rw [hoe]
    dsimp only
    rw [if_pos hee]
    have H : DW P T cp ops (oe :: l2) sl h K X := H
    unfold DW at H
    rw [if_pos hee] at H
    have hlt : j < listed.size := by
      rcases Nat.lt_or_ge j listed.size with h1 | h1
      · exact h1
      · have := (mem_ready.1 hr).1
        simp [Array.getElem?_eq_none h1] at this
    exact H.monoN fun r h' hN => AAny.toM _ _ _ _ (by simp [hlt]) (DW.any ord2 l2 _ _ _ hl2 hm2 (hdc.step hr) hB' hN)
  | [], _ :: _, _, _, _, hl, _, _, _, _, _ => by simp at hl
  | _ :: _, [], _, _, _, hl, _, _, _, _, _ => by simp at hl
  | i :: ord, o :: l, listed, sl, h, hl, hmap, hdc, hB, hM, H => by
    have hi : ops[i]? = some o := (hmap 0 i rfl).symm
    unfold ordCN at hB
    simp only [Bool.and_eq_true] at hB
    obtain ⟨hf, hB'⟩ := hB
    have hone : Region.ready md ops listed = [i] := by simpa using hf
    have hr : i ∈ Region.ready md ops listed := by rw [hone]; exact List.mem_cons_self ..
    rw [List.length_cons, Nat.succ_add]
    have next : ∀ (s2 : List AV) (h2 : AH), M h2 ∧ CHN P T cp ops M (oe :: l2) K X l s2 h2 → AAnyM P T cp md ops e0 M K X (ord.length + (ord2.length + 1)) (listed.setIfInBounds i true) s2 h2 := fun s2 h2 hN =>
      CHN.any hoe hee hl2 hm2 ord l _ _ _ (by simpa using hl) (fun n k e => by simpa using hmap (n + 1) k (by simpa using e)) (hdc.step hr) hB' hN.1 hN.2
    refine ⟨fun _ => hM, fun h0 => (by rw [h0] at hr; cases hr), fun j hj => ?_⟩
    rw [hone] at hj
    have hj : j = i := by simpa using hj
    subst hj
    have H : DW P T cp ops [o] sl h (fun s2 h2 => M h2 ∧ CHN P T cp ops M (oe :: l2) K X l s2 h2) X := H
    unfold DW at H
    unfold aOp
    rw [hi]
    dsimp only
    split
    · rename_i he
      rw [if_pos he] at H
      refine H.monoN fun r h' hN => ?_
      unfold DW at hN
      exact next _ _ hN
    · rename_i he
      rw [if_neg he] at H
      obtain ⟨v, g1, g2, g3⟩ := H
      unfold DW at g3
      exact ⟨v, g1, g2, next _ _ g3⟩
/-- the free operations, one behind the other -/
def FRN (P : Program) (T : Tbl) (ops : Array Oper) (M : AH → Prop) (K : List AV → Prop) : List Oper → List AV → Prop
  | [], s => K s
  | o :: r, s => ∃ v, (∀ h', (hiK o = false → M h') → Yg P T ops o v s h') ∧ FRN P T ops M K r (putA o.dst v s)
theorem FRN.mono {M : AH → Prop} {K K' : List AV → Prop} (hK : ∀ s, K s → K' s) : ∀ {lf : List Oper} {s : List AV}, FRN P T ops M K lf s → FRN P T ops M K' lf s
  | [], s, H => hK s H
  | _ :: _, _, ⟨v, hv, H⟩ => ⟨v, hv, FRN.mono hK H⟩
theorem FRN.nil {M : AH → Prop} {K : List AV → Prop} {s : List AV} (H : K s) : FRN P T ops M K [] s := H
theorem FRN.op {M : AH → Prop} {K : List AV → Prop} {o : Oper} {r : List Oper} {s : List AV} {v : AV} (hg : o.guard = none) (hv : ∀ h', okV (opP P o.op (ev T s) h') v) (H : FRN P T ops M K r (putA o.dst v s)) : FRN P T ops M K (o :: r) s :=
  ⟨v, fun h' hm => Yg.of_okV hg (hv h'), H⟩
theorem FRN.call {M : AH → Prop} {K : List AV → Prop} {o : Oper} {rest : List Oper} {s : List AV} {c : Call} {fo : Operand} {f : FuncId} {cap args : List AV} {r : AV} (ho : o.op = .call c) (hg : o.guard = none) (hc : c.callee = .value fo) (hf : ev T s fo = .fn f cap)
    (C : PC P T f args r) (ha : (c.args.toList.map (ev T s) ++ cap).map frzA = args) (hk : (c.args.toList.map (ev T s) ++ cap).all okF = true) (H : FRN P T ops M K rest (putA o.dst r s)) : FRN P T ops M K (o :: rest) s :=
  ⟨r, fun h' _ => by unfold Yg; rw [hg]; exact AYv.pc ho hc hf C (by rw [← ha]; exact LeL.frz hk), H⟩
end
attribute [go_sem] CHN
end Go.Proofs.YtlfocommkkkgdaaDoor

namespace Go.Proofs.YtlfocommkkkgdaaDoor
open Go.RowKit
set_option linter.unusedSimpArgs false
set_option linter.unusedVariables false
theorem DW.nil {P : Program} {T : Tbl} {cp : Bool} {ops : Array Oper} {K : List AV → AH → Prop} {X : AV → AH → Prop} {sl : List AV} {h : AH} (H : K sl h) : DW P T cp ops [] sl h K X := H
section
variable {P : Program} {T : Tbl} {ops : Array Oper} {K : List AV → AH → Prop} {X : AV → AH → Prop} {o : Oper} {rest : List Oper} {sl : List AV} {h : AH}
theorem LV.dw1 {pre : List Oper} (H : DW P T false ops [o] sl h (fun s h => LV P T ops pre s h K X) X) : LV P T ops (o :: pre) sl h K X := DW.listB pre [o] sl h H
end
end Go.Proofs.YtlfocommkkkgdaaDoor

namespace Go.Proofs.YtlfocommkkkgdaaDoor
open Go.RowKit
set_option linter.unusedSimpArgs false
set_option linter.unusedVariables false
section
variable {P : Program} {T : Tbl} {cp : Bool} {md : Region.Mode} {ops : Array Oper} {K : List AV → AH → Prop} {X : AV → AH → Prop}
/-- two operations in either order lead to the same -/
def PAIR (P : Program) (T : Tbl) (cp : Bool) (ops : Array Oper) (ox oy : Oper) (K : List AV → AH → Prop) (X : AV → AH → Prop) (s : List AV) (h : AH) : Prop :=
  ∃ S H, DW P T cp ops [ox, oy] s h (fun a b => a = S ∧ b = H) X ∧ DW P T cp ops [oy, ox] s h (fun a b => a = S ∧ b = H) X ∧ K S H
theorem AAny.pair {x y : Nat} {ox oy : Oper} {listed : Array Bool} {sl : List AV} {h : AH} (hx : ops[x]? = some ox) (hy : ops[y]? = some oy) (ex : effK cp ox = true) (ey : effK cp oy = true) (hdc : DC md ops listed)
    (hr : Region.ready md ops listed = [x, y]) (hxy : x ≠ y) (hbx : ordB cp md ops [y] (listed.setIfInBounds x true) = true) (hby : ordB cp md ops [x] (listed.setIfInBounds y true) = true) (H : PAIR P T cp ops ox oy K X sl h) : AAny P T cp md ops K X 2 listed sl h := by
  obtain ⟨S, H0, h1, h2, hk⟩ := H
  have hK : ∀ s h, s = S ∧ h = H0 → K s h := fun s h e => by rw [e.1, e.2]; exact hk
  have h1 := DW.monoK hK _ _ _ h1
  have h2 := DW.monoK hK _ _ _ h2
  have rx : x ∈ Region.ready md ops listed := by rw [hr]; simp
  have ry : y ∈ Region.ready md ops listed := by rw [hr]; simp
  refine ⟨fun h0 => (by rw [hr] at h0; cases h0), fun i hi => ?_⟩
  rw [hr] at hi
  have hi : i = x ∨ i = y := by simpa using hi
  rcases hi with rfl | rfl
  · unfold aOp
    rw [hx]
    dsimp only
    rw [if_pos ex]
    unfold DW at h1
    rw [if_pos ex] at h1
    exact h1.monoN fun r h' hN => DW.any [y] [oy] _ _ _ rfl (fun n k e => by
      cases n with
      | zero => simp at e; subst e; rw [hy]; rfl
      | succ n => simp at e) (hdc.step rx) hbx hN
  · unfold aOp
    rw [hy]
    dsimp only
    rw [if_pos ey]
    unfold DW at h2
    rw [if_pos ey] at h2
    exact h2.monoN fun r h' hN => DW.any [x] [ox] _ _ _ rfl (fun n k e => by
      cases n with
      | zero => simp at e; subst e; rw [hx]; rfl
      | succ n => simp at e) (hdc.step ry) hby hN
def CHQ (P : Program) (T : Tbl) (cp : Bool) (ops : Array Oper) (M : AH → Prop) (lz : List Oper) (ox oy : Oper) (K : List AV → AH → Prop) (X : AV → AH → Prop) : List Oper → List AV → AH → Prop
  | [], s, h => DW P T cp ops lz s h (PAIR P T cp ops ox oy K X) X
  | o :: l, s, h => DW P T cp ops [o] s h (fun s2 h2 => M h2 ∧ CHQ P T cp ops M lz ox oy K X l s2 h2) X
def ordCP (cp : Bool) (md : Region.Mode) (ops : Array Oper) (e0 : Nat) (ord2 : List Nat) (x y : Nat) : List Nat → Array Bool → Bool
  | [], listed =>
    let L1 := listed.setIfInBounds e0 true
    let L2 := lst ord2 L1
    (Region.ready md ops listed == [e0]) && ordPre cp md ops ord2 L1 && (Region.ready md ops L2 == [x, y]) && !(x == y) && ordB cp md ops [y] (L2.setIfInBounds x true) && ordB cp md ops [x] (L2.setIfInBounds y true)
  | i :: r, listed => (Region.ready md ops listed == [i]) && ordCP cp md ops e0 ord2 x y r (listed.setIfInBounds i true)
theorem CHP.any {e0 : Nat} {oe : Oper} {M : AH → Prop} {ord2 : List Nat} {l2 : List Oper} {x y : Nat} {ox oy : Oper} (hoe : ops[e0]? = some oe) (hee : effK cp oe = true) (hl2 : l2.length = ord2.length) (hm2 : ∀ (n i : Nat), ord2[n]? = some i → l2[n]? = ops[i]?) (hx : ops[x]? = some ox) (hy : ops[y]? = some oy) (ex : effK cp ox = true) (ey : effK cp oy = true) : ∀ (ord : List Nat) (l : List Oper) (listed : Array Bool) (sl : List AV) (h : AH), l.length = ord.length → (∀ (n i : Nat), ord[n]? = some i → l[n]? = ops[i]?) → DC md ops listed → ordCP cp md ops e0 ord2 x y ord listed = true → M h →
    CHQ P T cp ops M (oe :: l2) ox oy K X l sl h → AAnyM P T cp md ops e0 M K X (ord.length + (ord2.length + 2 + 1)) listed sl h
  | [], [], listed, sl, h, _, _, hdc, hB, hM, H => by
    unfold ordCP at hB
    simp only [Bool.and_eq_true] at hB
    obtain ⟨⟨⟨⟨⟨hf, hB'⟩, hpx⟩, hpy⟩, hpa⟩, hpb⟩ := hB
    have hone : Region.ready md ops listed = [e0] := by simpa using hf
    have hr : e0 ∈ Region.ready md ops listed := by rw [hone]; exact List.mem_cons_self ..
    rw [List.length_nil, Nat.zero_add]
    refine ⟨fun _ => hM, fun h0 => (by rw [h0] at hr; cases hr), fun j hj => ?_⟩
    rw [hone] at hj
    have hj : j = e0 := by simpa using hj
    subst hj
    unfold aOp
    rw [hoe]
    dsimp only
    rw [if_pos hee]
    have H : DW P T cp ops (oe :: l2) sl h (PAIR P T cp ops ox oy K X) X := H
    unfold DW at H
    rw [if_pos hee] at H
    have hlt : j < listed.size := by
      rcases Nat.lt_or_ge j listed.size with h1 | h1
      · exact h1
      · have := (mem_ready.1 hr).1
        simp [Array.getElem?_eq_none h1] at this
    exact H.monoN fun r h' hN => AAny.toM _ _ _ _ (by simp [hlt]) (DW.anyP ord2 l2 _ _ _ hl2 hm2 (hdc.step hr) hB' (DW.monoK (fun s h hp => AAny.pair hx hy ex ey ((hdc.step hr).lst (cp := cp) ord2 hB') (by simpa using hpx) (by simpa using hpy) hpa hpb hp) _ _ _ hN))
  | [], _ :: _, _, _, _, hl, _, _, _, _, _ => by simp at hl
  | _ :: _, [], _, _, _, hl, _, _, _, _, _ => by simp at hl
  | i :: ord, o :: l, listed, sl, h, hl, hmap, hdc, hB, hM, H => by
    have hi : ops[i]? = some o := (hmap 0 i rfl).symm
    unfold ordCP at hB
    simp only [Bool.and_eq_true] at hB
    obtain ⟨hf, hB'⟩ := hB
    have hone : Region.ready md ops listed = [i] := by simpa using hf
    have hr : i ∈ Region.ready md ops listed := by rw [hone]; exact List.mem_cons_self ..
    rw [List.length_cons, Nat.succ_add]
    have next : ∀ (s2 : List AV) (h2 : AH), M h2 ∧ CHQ P T cp ops M (oe :: l2) ox oy K X l s2 h2 → AAnyM P T cp md ops e0 M K X (ord.length + (ord2.length + 2 + 1)) (listed.setIfInBounds i true) s2 h2 := fun s2 h2 hN =>
      CHP.any hoe hee hl2 hm2 hx hy ex ey ord l _ _ _ (by simpa using hl) (fun n k e => by simpa using hmap (n + 1) k (by simpa using e)) (hdc.step hr) hB' hN.1 hN.2
    refine ⟨fun _ => hM, fun h0 => (by rw [h0] at hr; cases hr), fun j hj => ?_⟩
    rw [hone] at hj
    have hj : j = i := by simpa using hj
    subst hj
    have H : DW P T cp ops [o] sl h (fun s2 h2 => M h2 ∧ CHQ P T cp ops M (oe :: l2) ox oy K X l s2 h2) X := H
    unfold DW at H
    unfold aOp
    rw [hi]
    dsimp only
    split
    · rename_i he
      rw [if_pos he] at H
      refine H.monoN fun r h' hN => ?_
      unfold DW at hN
      exact next _ _ hN
    · rename_i he
      rw [if_neg he] at H
      obtain ⟨v, g1, g2, g3⟩ := H
      unfold DW at g3
      exact ⟨v, g1, g2, next _ _ g3⟩
end
attribute [go_sem] CHQ
end Go.Proofs.YtlfocommkkkgdaaDoor

namespace Go.Proofs.YtlfocommkkkgdaaDoor
open Go.RowKit
set_option linter.unusedSimpArgs false
set_option linter.unusedVariables false
section
variable {P : Program} {T : Tbl} {cp : Bool} {md : Region.Mode} {ops : Array Oper} {K : List AV → AH → Prop} {X : AV → AH → Prop}
end
end Go.Proofs.YtlfocommkkkgdaaDoor

namespace Go.Proofs.YtlfocommkkkgdaaDoor
open Go.RowKit
set_option linter.unusedSimpArgs false
set_option linter.unusedVariables false
section
variable {G : Gh} {P : Program} {T : Tbl} {cp : Bool} {ops : Array Oper} {K : List AV → AH → Prop} {X : AV → AH → Prop} {o : Oper} {rest : List Oper} {sl : List AV} {h : AH}
theorem Wrote.rfl' (b : Nat) (w : World) : Wrote b w w := ⟨rfl, rfl, rfl, rfl, fun _ _ => rfl⟩
end
end Go.Proofs.YtlfocommkkkgdaaDoor

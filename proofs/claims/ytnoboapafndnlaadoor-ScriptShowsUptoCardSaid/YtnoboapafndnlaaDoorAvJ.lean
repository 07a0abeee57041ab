/- Abstract values: append. -/
import Derived.Test.YtnoboapafndnlaaDoorAvI
import Derived.Laws.AppendOwn
namespace Go.Proofs.YtnoboapafndnlaaDoor
open Go.RowKit
set_option linter.unusedSimpArgs false
set_option linter.unusedVariables false

theorem pair_sym {α : Type} {R : α → α → Prop} (hs : ∀ a b, R a b → R b a) : ∀ {l : List α} {a b : α}, l.Pairwise R → a ∈ l → b ∈ l → a ≠ b → R a b
  | x :: l, a, b, hp, ha, hb, hne => by
    have hp' := List.pairwise_cons.1 hp
    rcases List.mem_cons.1 ha with ea | ha
    · rcases List.mem_cons.1 hb with eb | hb
      · exact absurd (ea.trans eb.symm) hne
      · rw [ea]; exact hp'.1 b hb
    · rcases List.mem_cons.1 hb with eb | hb
      · rw [eb]; exact hs _ _ (hp'.1 a ha)
      · exact pair_sym hs hp'.2 ha hb hne
section
variable {P : Program} {T : Tbl} {G : Gh} {h : AH} {w : World}
def Gh.freezeUpto (G : Gh) (b : Nat) (lo hi : Nat) (f : Nat → Option Value) : Gh := { G with frz := fun b' o => if b' = b ∧ lo ≤ o ∧ o < hi then f o else G.frz b' o }
/-- rows out of cells -/
def CellRows (F : Frz) (k : Nat) (src : List (List D)) (cells : List Value) : Prop :=
  cells.length = src.length * k ∧ (∀ r ∈ src, r.length = k) ∧ (∀ v ∈ cells, v.oneCell' = true) ∧ ∀ (i : Nat) (r : List D) (j : Nat) (x : D), src[i]? = some r → r[j]? = some x → ∃ v, cells[i * k + j]? = some v ∧ VD F x v
theorem CellRows.mono {F F' : Frz} (hF : ∀ b o u, F b o = some u → F' b o = some u) {k : Nat} {src : List (List D)} {cells : List Value} (hc : CellRows F k src cells) : CellRows F' k src cells :=
  ⟨hc.1, hc.2.1, hc.2.2.1, fun i r j x h1 h2 => by obtain ⟨v, h3, h4⟩ := hc.2.2.2 i r j x h1 h2; exact ⟨v, h3, h4.mono hF⟩⟩
theorem CellRows.append {F : Frz} {k : Nat} {a b : List (List D)} {x y : List Value} (ha : CellRows F k a x) (hb : CellRows F k b y) : CellRows F k (a ++ b) (x ++ y) := by
  obtain ⟨a1, a2, a3, a4⟩ := ha
  obtain ⟨b1, b2, b3, b4⟩ := hb
  refine ⟨by simp [a1, b1, Nat.add_mul], fun r hr => (List.mem_append.1 hr).elim (a2 r) (b2 r), fun v hv => (List.mem_append.1 hv).elim (a3 v) (b3 v), fun i r j d h1 h2 => ?_⟩
  rcases Nat.lt_or_ge i a.length with hi | hi
  · rw [List.getElem?_append_left hi] at h1
    obtain ⟨v, h3, h4⟩ := a4 i r j d h1 h2
    exact ⟨v, by rw [List.getElem?_append_left (List.getElem?_eq_some_iff.1 h3).1]; exact h3, h4⟩
  · rw [List.getElem?_append_right hi] at h1
    obtain ⟨v, h3, h4⟩ := b4 (i - a.length) r j d h1 h2
    have e : i * k + j = x.length + ((i - a.length) * k + j) := by
      rw [a1, ← Nat.add_assoc, ← Nat.add_mul]
      congr 2
      omega
    exact ⟨v, by rw [e, List.getElem?_append_right (Nat.le_add_right ..), Nat.add_sub_cancel_left]; exact h3, h4⟩
/-- cells that are frozen read as a slice -/
theorem VD.of_cells {F : Frz} {k : Nat} {rows : List (List D)} {cells : List Value} (hc : CellRows F k rows cells) {b c : Nat} (hf : ∀ o u, cells[o]? = some u → F b o = some u) (hn : rows.length ≤ c) (hm : c ≤ maxLen) : VD F (.slc k rows) (.slice (some ⟨b, 0, none⟩) rows.length c) := by
  obtain ⟨h1, h2, _, h4⟩ := hc
  rcases Nat.eq_zero_or_pos rows.length with h0 | h0
  · have : rows = [] := List.eq_nil_of_length_eq_zero h0
    subst this
    exact .slc0 k _ c (fun e => by cases e) hm
  · refine .slc k rows b 0 c (fun i j => cells.getD (i * k + j) Go.undef) h0 hn hm h2 (fun i r j x e1 e2 => ?_) (fun i r j x e1 e2 => ?_)
    · obtain ⟨v, h3, _⟩ := h4 i r j x e1 e2
      rw [Nat.zero_add]
      simp only [List.getD, h3, Option.getD_some]
      exact hf _ _ h3
    · obtain ⟨v, h3, h5⟩ := h4 i r j x e1 e2
      simp only [List.getD, h3, Option.getD_some]
      exact h5
theorem cells_div {k q : Nat} (hk : 0 < k) : q = q / k * k + q % k := by rw [Nat.mul_comm]; exact (Nat.div_add_mod q k).symm
/-- the cells of a slice that reads -/
theorem VD.to_cells {k : Nat} {rows : List (List D)} {A : Option Addr} {c : Nat} (hk : 0 < k) (hd : VD G.frz (.slc k rows) (.slice A rows.length c)) (hfr : ∀ b o u, G.frz b o = some u → w.cell? ⟨b, o, none⟩ = some u) :
    ∃ cells : List Value, CellRows G.frz k rows cells ∧ (∀ w' : World, w'.heap = w.heap → (Builtin.firstCells k rows.length (.slice A rows.length c)).run P w' = .ok cells.toArray w') ∧ (A = none → cells = []) ∧ ∀ b, A = some ⟨b, 0, none⟩ → ∀ o u, cells[o]? = some u → G.frz b o = some u := by
  obtain ⟨A', c', e, g1, g2, g3, g4, g5⟩ := hd.slc_inv
  injection e with e1 e2 e3
  subst e1 e3
  rcases Nat.eq_zero_or_pos rows.length with h0 | h0
  · have hnil : rows = [] := List.eq_nil_of_length_eq_zero h0
    subst hnil
    refine ⟨[], ⟨by simp, by simp, by simp, fun i r j x e => by simp at e⟩, fun w' _ => ?_, fun _ => rfl, fun b _ o u e => by simp at e⟩
    cases A with
    | none => rfl
    | some a => simp [Builtin.firstCells, loadCells, loadCellsFrom]
  · obtain ⟨b, off, val, rfl, g6⟩ := g5 h0
    have hq : ∀ q, q < rows.length * k → G.frz b (off + q) = some (val (q / k) (q % k)) ∧ (val (q / k) (q % k)).oneCell' = true := fun q hq => by
      have hi : q / k < rows.length := Nat.div_lt_of_lt_mul (by rw [Nat.mul_comm]; exact hq)
      have hr : rows[q / k]? = some rows[q / k] := List.getElem?_eq_getElem hi
      have hj : q % k < rows[q / k].length := by rw [g4 _ (List.getElem_mem hi)]; exact Nat.mod_lt _ hk
      obtain ⟨h1, h2⟩ := g6 (q / k) _ (q % k) _ hr (List.getElem?_eq_getElem hj)
      rw [← cells_div hk] at h1
      exact ⟨h1, h2.one⟩
    refine ⟨(List.range (rows.length * k)).map fun q => val (q / k) (q % k), ⟨by simp, g4, fun v hv => ?_, fun i r j x e1 e2 => ?_⟩, fun w' hw' => ?_, (fun e => by cases e), fun b' e o u hu => ?_⟩
    · obtain ⟨q, hq', rfl⟩ := List.mem_map.1 hv
      exact (hq q (List.mem_range.1 hq')).2
    · have hi : i < rows.length := (List.getElem?_eq_some_iff.1 e1).1
      have hj : j < k := by rw [← g4 r (List.mem_of_getElem? e1)]; exact (List.getElem?_eq_some_iff.1 e2).1
      have hlt : i * k + j < rows.length * k := by
        calc i * k + j < i * k + k := by omega
          _ = (i + 1) * k := by rw [Nat.succ_mul]
          _ ≤ rows.length * k := Nat.mul_le_mul_right _ (by omega)
      refine ⟨val i j, ?_, (g6 i r j x e1 e2).2⟩
      rw [List.getElem?_map, List.getElem?_range hlt, Option.map_some]
      congr 2
      · rw [Nat.mul_comm, Nat.mul_add_div hk, Nat.div_eq_of_lt hj, Nat.add_zero]
      · rw [Nat.mul_comm, Nat.mul_add_mod, Nat.mod_eq_of_lt hj]
    · have := run_loadCells_list (P := P) w' ⟨b, off, none⟩ ((List.range (rows.length * k)).map fun q => val (q / k) (q % k)) (fun q v hv => by
        rw [List.getElem?_map] at hv
        rcases Nat.lt_or_ge q (rows.length * k) with hlt | hge
        · rw [List.getElem?_range hlt, Option.map_some] at hv
          injection hv with hv
          rw [add_at, ← hv]
          have := hfr _ _ _ (hq q hlt).1
          simpa [World.cell?, hw'] using this
        · rw [List.getElem?_eq_none (by simpa using hge)] at hv; cases hv)
      simpa [Builtin.firstCells] using this
    · injection e with e
      injection e with e1 e2
      subst e1 e2
      rw [List.getElem?_map] at hu
      rcases Nat.lt_or_ge o (rows.length * k) with hlt | hge
      · rw [List.getElem?_range hlt, Option.map_some] at hu
        injection hu with hu
        have := (hq o hlt).1
        rw [Nat.zero_add] at this
        rw [this, hu]
      · rw [List.getElem?_eq_none (by simpa using hge)] at hu; cases hu
def replT (t t' : Nat) : List Nat → List Nat
  | [] => []
  | x :: r => if (x == t) = true then t' :: r else x :: replT t t' r
theorem replT_mem {t t' x : Nat} : ∀ {l : List Nat}, l.Pairwise (fun a b => a ≠ b) → x ∈ replT t t' l → x = t' ∨ (x ∈ l ∧ x ≠ t)
  | y :: r, hp, hx => by
    unfold replT at hx
    have hp' := List.pairwise_cons.1 hp
    split at hx
    · rename_i hy
      have hy : y = t := by simpa using hy
      subst hy
      rcases List.mem_cons.1 hx with rfl | hx
      · exact .inl rfl
      · exact .inr ⟨List.mem_cons_of_mem _ hx, fun e => hp'.1 x hx e.symm⟩
    · rename_i hy
      rcases List.mem_cons.1 hx with rfl | hx
      · exact .inr ⟨List.mem_cons_self .., by simpa using hy⟩
      · rcases replT_mem hp'.2 hx with h | ⟨h1, h2⟩
        · exact .inl h
        · exact .inr ⟨List.mem_cons_of_mem _ h1, h2⟩
theorem replT_pair {t t' : Nat} {R : Nat → Nat → Prop} : ∀ {l : List Nat}, l.Pairwise R → (∀ x ∈ l, x ≠ t → R x t' ∧ R t' x) → l.Pairwise (fun a b => a ≠ b) → (replT t t' l).Pairwise R
  | [], _, _, _ => by simp [replT]
  | y :: r, hp, hR, hn => by
    have hp' := List.pairwise_cons.1 hp
    have hn' := List.pairwise_cons.1 hn
    unfold replT
    split
    · rename_i hy
      have hy : y = t := by simpa using hy
      subst hy
      exact List.pairwise_cons.2 ⟨fun x hx => (hR x (List.mem_cons_of_mem _ hx) (fun e => hn'.1 x hx e.symm)).2, hp'.2⟩
    · rename_i hy
      have hy : y ≠ t := by simpa using hy
      refine List.pairwise_cons.2 ⟨fun x hx => ?_, replT_pair hp'.2 (fun x hx => hR x (List.mem_cons_of_mem _ hx)) hn'.2⟩
      rcases replT_mem hn'.2 hx with rfl | ⟨hx, _⟩
      · exact (hR y (List.mem_cons_self ..) hy).1
      · exact hp'.1 x hx
/-- where an append writes -/
theorem run_append {t t2 e k by_ : Nat} (ty : TypeId) (hsl : slI P t = some (e, k, by_)) (ht2 : ∃ d, P.underlying t2 = some d ∧ ∀ kk, d ≠ .int kk) (S : Sim T G h w) {tk : Nat} (htk : tk ∈ h.live) {rows src : List (List D)} {A : Option Addr} {c : Nat}
    (hv : VD G.frz (.slc k rows) (.slice A rows.length c)) (hT : G.tok tk = some (k, .slice A rows.length c)) {x : Value} {new : List Value} (hnew : CellRows G.frz k src new) (hlen : ∀ w', (Builtin.lenOf x).run P w' = .ok src.length w')
    (hread : ∀ w' : World, w'.heap = w.heap → (Builtin.firstCells k src.length x).run P w' = .ok new.toArray w') (h63 : rows.length + src.length ≤ maxLen) (hby : (rows.length + src.length) * by_ ≤ 140737488355328) :
    ∃ G' v w', (Builtin.append_ #[t, t2] ty #[.slice A rows.length c, x]).run P w = .ok v w' ∧ Gle G G' ∧ Sim T G' ⟨h.objs, replT tk G.nt h.live⟩ w' ∧ VR G' (.own G.nt k (rows ++ src)) v := by
  obtain ⟨i, hu, hi, hsz, hbytes, hz, hk⟩ := slI_inv hsl
  obtain ⟨z, hz1, hz2⟩ := Option.map_eq_some_iff.1 hz
  obtain ⟨d2, hu2, hd2⟩ := ht2
  obtain ⟨old, ho1, ho2, ho3, ho4⟩ := VD.to_cells (P := P) (w := w) hk hv S.frz
  have hcat := ho1.append hnew
  have hTok := S.liv tk htk
  obtain ⟨k', n', c', A', hT', hnc, hcm, _, hA0, hA⟩ := hTok.mem
  rw [hT] at hT'
  simp only [Option.some.injEq, Prod.mk.injEq, Value.slice.injEq] at hT'
  obtain ⟨rfl, rfl, rfl, rfl⟩ := hT'
  have hne : h.live.Pairwise fun a b => a ≠ b := S.lnd
  have hnt : ∀ t ∈ h.live, t ≠ G.nt := fun t ht e => by
    obtain ⟨_, _, _, _, e2, _⟩ := (S.liv _ ht).mem
    rw [S.fin t (by omega)] at e2
    cases e2
  have hcells : new.length = src.length * k := hnew.1
  have holdlen : old.length = rows.length * k := ho1.1
  have hnint : (match d2 with | .int _ => true | _ => false) = false := by cases d2 <;> first | rfl | exact absurd rfl (hd2 _)
  have hT' : ∀ kk, P.underlying t2 ≠ some (.int kk) := fun kk e => by rw [hu2] at e; injection e with e; exact hd2 kk e
  -- the new ghost state, whatever block b holds the row
  have fin : ∀ (b c2 : Nat) (w' : World) (vs : Array Value) (ty : TypeId) (fz : Nat × Nat), G.base.heap.size ≤ b → rows.length + src.length ≤ c2 → c2 ≤ maxLen → Below G.base.heap.size w w' → w'.heap[b]? = some (.cells vs ty fz) → vs.size = c2 * k →
      (∀ o, o < vs.size → (decide (fz.1 ≤ o) && decide (o < fz.2)) = false) → (∀ o, o < (rows.length + src.length) * k → vs[o]? = (old ++ new)[o]?) → (∀ b', b' ≠ b → b' < w.heap.size → w'.heap[b']? = w.heap[b']?) →
      (∀ o u, G.frz b o = some u → o < rows.length * k ∧ old[o]? = some u) → b ∉ h.objs.map Prod.fst → (∀ t ∈ h.live, t ≠ tk → tokBlk G t ≠ some b) →
      ∃ G' : Gh, Gle G G' ∧ Sim T G' ⟨h.objs, replT tk G.nt h.live⟩ w' ∧ VR G' (.own G.nt k (rows ++ src)) (.slice (some ⟨b, 0, none⟩) (rows.length + src.length) c2) := by
    intro b c2 w' vs ety fz hb hc2 hcm2 hbel hheap hvs hfz hsame hoth hold hbo hbt
    let F' : Frz := fun b' o => if b' = b then (if o < (rows.length + src.length) * k then vs[o]? else none) else G.frz b' o
    let G' : Gh := { base := G.base, frz := F', tok := fun t => if t = G.nt then some (k, .slice (some ⟨b, 0, none⟩) (rows.length + src.length) c2) else G.tok t, nt := G.nt + 1 }
    have hcatlen : (old ++ new).length = (rows.length + src.length) * k := by rw [List.length_append, holdlen, hcells, Nat.add_mul]
    have hF : ∀ b' o u, G.frz b' o = some u → F' b' o = some u := fun b' o u e => by
      show (if b' = b then _ else _) = _
      by_cases hbb : b' = b
      · subst hbb
        obtain ⟨h1, h2⟩ := hold o u e
        have hlt : o < (rows.length + src.length) * k := by rw [Nat.add_mul]; omega
        rw [if_pos rfl, if_pos hlt, hsame o hlt, List.getElem?_append_left (by omega)]
        exact h2
      · rw [if_neg hbb]; exact e
    have hG : Gle G G' := ⟨rfl, hF, fun b' o u e => by
        have e' : (if b' = b then (if o < (rows.length + src.length) * k then vs[o]? else none) else G.frz b' o) = some u := e
        by_cases hbb : b' = b
        · exact .inr (by rw [hbb]; exact hb)
        · rw [if_neg hbb] at e'; exact .inl e', fun t x e => by
        show (if t = G.nt then _ else _) = _
        rw [if_neg (fun e' => by rw [S.fin t (by omega)] at e; cases e)]
        exact e⟩
    have hblk : ∀ t ∈ h.live, tokBlk G' t = tokBlk G t := fun t ht => tokBlk_mono hG (S.liv t ht)
    have hnewblk : tokBlk G' G.nt = some b := by
      unfold tokBlk
      show (match (if G.nt = G.nt then some (k, Value.slice (some ⟨b, 0, none⟩) (rows.length + src.length) c2) else _) with | some (_, .slice (some a) _ _) => some a.block | _ => none) = _
      rw [if_pos rfl]
    have hne_b : ∀ b', b' ≠ b → ∀ o, G.frz b' o = none → F' b' o = none := fun b' hb' o e => by
      show (if b' = b then _ else _) = _
      rw [if_neg hb']; exact e
    have S' : Sim T G' ⟨h.objs, replT tk G.nt h.live⟩ w' := by
      refine ⟨S.below.trans hbel, fun g j x hx => ?_, fun b' o u e => ?_, fun t ht => ?_, fun p hp => ?_, S.nd, fun t ht => ?_, ?_, fun t ht g hg => ?_, ?_⟩
      · obtain ⟨u, h1, h2⟩ := S.glob g j x hx
        exact ⟨u, hF _ _ _ h1, h2.mono hF⟩
      · have e' : (if b' = b then (if o < (rows.length + src.length) * k then vs[o]? else none) else G.frz b' o) = some u := e
        by_cases hbb : b' = b
        · subst hbb
          rw [if_pos rfl] at e'
          split at e'
          · rw [cell_of_row _ _ _ vs ety fz hheap]; exact e'
          · cases e'
        · rw [if_neg hbb] at e'
          have := S.frz b' o u e'
          rw [← this]
          exact World.cell?_of_block (w := w) (a := ⟨b', o, none⟩) (hoth b' hbb (S.frzlt e'))
      · show (if t = G.nt then _ else _) = _
        have ht' : G.nt + 1 ≤ t := ht
        rw [if_neg (by omega)]
        exact S.fin t (by omega)
      · have hO := S.obj p hp
        have hpb : p.1 ≠ b := fun e => hbo (by rw [← e]; exact List.mem_map_of_mem hp)
        exact (hO.mono hG (fun o => hne_b _ hpb o (hO.free o))).world (hoth _ hpb hO.lt)
      · rcases replT_mem hne ht with rfl | ⟨ht, htne⟩
        · exact ⟨k, rows.length + src.length, c2, some ⟨b, 0, none⟩, by show (if G.nt = G.nt then _ else _) = _; rw [if_pos rfl], hc2, hcm2, hk, (fun e => by cases e), fun a ha => by
            injection ha with ha
            exact ⟨b, vs, ety, fz, ha.symm, hb, hheap, hvs, hfz, fun o ho => by
              show (if b = b then (if o < _ then _ else none) else _) = none
              rw [if_pos rfl, if_neg (by omega)]⟩⟩
        · have hL := S.liv t ht
          have hbk := hbt t ht htne
          exact (hL.mono hG (fun g hg o ho => hne_b g (fun e => hbk (by rw [← e]; exact hg)) o ho)).world (fun g hg => by
            rw [hblk t ht] at hg
            exact hoth g (fun e => hbk (by rw [← e]; exact hg)) (hL.lt hg))
      · refine replT_pair (S.tdis.imp_of_mem fun {a b'} ha hb' hd g h1 h2 => hd g (by rw [← hblk a ha]; exact h1) (by rw [← hblk b' hb']; exact h2)) (fun x hx hxt => ⟨fun g h1 h2 => ?_, fun g h1 h2 => ?_⟩) hne
        · rw [hnewblk] at h2
          injection h2 with h2
          subst h2
          rw [hblk x hx] at h1
          exact hbt x hx hxt h1
        · rw [hnewblk] at h1
          injection h1 with h1
          subst h1
          rw [hblk x hx] at h2
          exact hbt x hx hxt h2
      · rcases replT_mem hne ht with rfl | ⟨ht, _⟩
        · rw [hnewblk] at hg
          injection hg with hg
          subst hg
          exact hbo
        · rw [hblk t ht] at hg
          exact S.todis t ht g hg
      · exact replT_pair S.lnd (fun x hx _ => ⟨hnt x hx, fun e => hnt x hx e.symm⟩) hne
    refine ⟨G', hG, S', .own ?_ (by show (if G.nt = G.nt then _ else _) = _; rw [if_pos rfl])⟩
    have := VD.of_cells (F := F') (b := b) (c := c2) (hcat.mono hF) (fun o u hu => by
      have hlt : o < (rows.length + src.length) * k := by rw [← hcatlen]; exact (List.getElem?_eq_some_iff.1 hu).1
      show (if b = b then (if o < _ then vs[o]? else none) else _) = _
      rw [if_pos rfl, if_pos hlt, hsame o hlt]
      exact hu) (by simpa using hc2) hcm2
    simpa using this
  have hzero : ∀ w', (match (#[t, t2] : Array TypeId)[1]? with
      | some xType => do pure ((← underlying xType) matches .int _)
      | none => pure false : Sem Bool).run P w' = .ok false w' := fun w' => by
    show (do pure ((← underlying t2) matches .int _) : Sem Bool).run P w' = _
    rw [Sem.run_bind, run_underlying hu2]
    simp only [Result.andThen_ok, Sem.run_pure]
  have hnum : ((rows.length + src.length : Nat) : Int) ≤ IntKind.i64.max := by
    have : IntKind.i64.max = 9223372036854775807 := by decide
    unfold maxLen at h63
    omega
  by_cases hfit : rows.length + src.length ≤ c
  · cases A with
    | none =>
      obtain ⟨hr0, hc0⟩ := hA0 rfl
      have hs0 : src.length = 0 := by omega
      have hrn : rows = [] := List.eq_nil_of_length_eq_zero hr0
      have hsn : src = [] := List.eq_nil_of_length_eq_zero hs0
      subst hrn hsn hc0
      let G' : Gh := { G with tok := fun t => if t = G.nt then some (k, .slice none 0 0) else G.tok t, nt := G.nt + 1 }
      have hG : Gle G G' := ⟨rfl, fun _ _ _ e => e, fun _ _ _ e => .inl e, fun t x e => by
        show (if t = G.nt then _ else _) = _
        rw [if_neg (fun e' => by rw [S.fin t (by omega)] at e; cases e)]
        exact e⟩
      have S1 : Sim T G' h w := S.grow (Below.refl _ _) hG (fun t ht => by
          show (if t = G.nt then _ else _) = _
          have ht' : G.nt + 1 ≤ t := ht
          rw [if_neg (by omega)]
          exact S.fin t (by omega)) (fun _ _ _ e => .inl e) S.frz
      have hnewblk : tokBlk G' G.nt = none := by
        unfold tokBlk
        show (match (if G.nt = G.nt then some (k, Value.slice none 0 0) else _) with | some (_, .slice (some a) _ _) => some a.block | _ => none) = none
        rw [if_pos rfl]
      refine ⟨G', .slice none 0 0, w, ?_, hG, ⟨S1.below, S1.glob, S1.frz, S1.fin, S1.obj, S1.nd, fun t ht => ?_, ?_, fun t ht g hg => ?_, ?_⟩, .own (.slc0 k none 0 (fun _ => rfl) (by decide)) (by show (if G.nt = G.nt then _ else _) = _; rw [if_pos rfl])⟩
      · have h1 : (Builtin.firstCells k 0 x).run P w = .ok new.toArray w := by simpa using hread w rfl
        have hn0 : new = [] := List.eq_nil_of_length_eq_zero (by rw [hcells]; simp)
        simp [Builtin.append_, run_underlying hu, run_sizeOf hi, hsz, run_underlying hu2, hnint, hlen, h1, hn0, storeCells]
      · rcases replT_mem hne ht with rfl | ⟨ht, _⟩
        · exact ⟨k, 0, 0, none, by show (if G.nt = G.nt then _ else _) = _; rw [if_pos rfl], Nat.le_refl _, by decide, hk, fun _ => ⟨rfl, rfl⟩, fun a e => by cases e⟩
        · exact S1.liv t ht
      · exact replT_pair S1.tdis (fun x hx hxt => ⟨fun g _ h2 => (by rw [hnewblk] at h2; cases h2), fun g h1 _ => (by rw [hnewblk] at h1; cases h1)⟩) hne
      · rcases replT_mem hne ht with rfl | ⟨ht, _⟩
        · rw [hnewblk] at hg; cases hg
        · exact S1.todis t ht g hg
      · exact replT_pair S.lnd (fun x hx _ => ⟨hnt x hx, fun e => hnt x hx e.symm⟩) hne
    | some a =>
      obtain ⟨g, vs, ety, fz, rfl, hgb, hheap, hvs, hfz, hfree⟩ := hA a rfl
      have hle : (rows.length + src.length) * k ≤ vs.size := by rw [hvs]; exact Nat.mul_le_mul_right _ hfit
      obtain ⟨vs', q1, q2, q3⟩ := setCells_heap g new (rows.length * k) w vs ety fz hheap
      have hold4 := ho4 g rfl
      obtain ⟨G', hG, S', hv'⟩ := fin g c (w.setCells g (rows.length * k) new) vs' ety fz hgb hfit hcm ((setCells_wrote g _ _ w).below hgb) q1 (by rw [q2]; exact hvs) (by rw [q2]; exact hfz) (fun o ho => by
          rw [q3 o (by omega)]
          by_cases hon : rows.length * k ≤ o
          · rw [if_pos (by rw [hcells]; rw [Nat.add_mul] at ho; omega), List.getElem?_append_right (by omega), holdlen]
          · rw [if_neg (by omega), List.getElem?_append_left (by omega)]
            have e1 : old[o]? = some (old[o]'(by omega)) := List.getElem?_eq_getElem _
            have e2 := S.frz _ _ _ (hold4 o _ e1)
            rw [cell_of_row _ _ _ vs ety fz hheap] at e2
            rw [e2, e1]) (fun b' hb' _ => (setCells_wrote g _ _ w).block b' hb') (fun o u e => by
          rcases Nat.lt_or_ge o (rows.length * k) with hlt | hge
          · refine ⟨hlt, ?_⟩
            have e1 : old[o]? = some (old[o]'(by omega)) := List.getElem?_eq_getElem _
            have e2 := hold4 o _ e1
            rw [e] at e2
            rw [e1, ← e2]
          · rw [hfree o hge] at e; cases e) (S.todis tk htk g (by unfold tokBlk; rw [hT])) (fun t ht htn e => by
          exact pair_sym (R := fun t t' => ∀ g, tokBlk G t = some g → tokBlk G t' = some g → False) (fun a b hh g h1 h2 => hh g h2 h1) S.tdis ht htk htn g e (by unfold tokBlk; rw [hT]))
      refine ⟨G', _, _, ?_, hG, S', hv'⟩
      have h1 := hread w rfl
      have hst := run_storeCells_cells (P := P) g (rows.length * k) new 0 w (fun j hj => by
          rw [cell_of_row _ _ _ vs ety fz hheap, Nat.add_zero, Array.getElem?_eq_getElem (by rw [Nat.add_mul] at hle; omega)]
          rfl) (fun j hj => by
          have := hfz (rows.length * k + j) (by rw [Nat.add_mul] at hle; omega)
          simp only [World.frozen?, hheap, Nat.add_zero]
          exact this) hnew.2.2.1
      simp only [Nat.add_zero] at hst
      simp [Builtin.append_, run_underlying hu, run_sizeOf hi, hsz, run_underlying hu2, hnint, hlen, h1, hfit, add_at, hst]
  · have hneed : c < rows.length + src.length := by omega
    let q := Question.appendCap (rows.length + src.length) c e
    have hcap : rows.length + src.length ≤ q.cut (w.tape w.drawn q) ∧ q.cut (w.tape w.drawn q) ≤ maxLen := by
      have h0 : 0 < 2 ^ 63 - (rows.length + src.length) := by unfold maxLen at h63; omega
      have := Nat.mod_lt (w.tape w.drawn q) h0
      show rows.length + src.length ≤ rows.length + src.length + w.tape w.drawn q % _ ∧ _ + w.tape w.drawn q % _ ≤ _
      unfold maxLen at *
      omega
    generalize hq : q.cut (w.tape w.drawn q) = cap at hcap
    let vs : Array Value := old.toArray ++ new.toArray ++ Builtin.zeroCells z.cells (cap - (rows.length + src.length))
    have hzs : (Builtin.zeroCells z.cells (cap - (rows.length + src.length))).size = (cap - (rows.length + src.length)) * k := by simp [Builtin.zeroCells, hz2]
    have hvs : vs.size = cap * k := by
      show (old.toArray ++ new.toArray ++ _).size = _
      rw [Array.size_append, Array.size_append, hzs]
      simp only [List.size_toArray, holdlen, hcells]
      rw [← Nat.add_mul, ← Nat.add_mul]
      congr 1
      omega
    obtain ⟨G', hG, S', hv'⟩ := fin w.heap.size cap (w.drew.alloc (.cells vs e)) vs e (0, 0) S.below.size hcap.1 hcap.2 ((Below.refl _ _).drew.alloc S.below.size _) (heap_alloc_new w.drew _) hvs (fun o _ => by simp) (fun o ho => by
        have h1 : o < (old ++ new).length := by rw [List.length_append, holdlen, hcells, ← Nat.add_mul]; exact ho
        show (old.toArray ++ new.toArray ++ _)[o]? = _
        rw [Array.getElem?_append_left (by simpa using h1)]
        simp) (fun b' hb' hlt => Below.heap_alloc w.drew _ b' hlt) (fun o u e' => by have := S.frzlt e'; omega) (fun hm => by
        obtain ⟨p, hp, e'⟩ := List.mem_map.1 hm
        have := S.fresh p hp
        omega) (fun t ht _ e' => by have := (S.liv t ht).lt e'; omega)
    refine ⟨G', _, _, ?_, hG, S', hv'⟩
    have hd := hread w.drew rfl
    have hod := ho2 w.drew rfl
    have hfits : ¬ ((Builtin.nextslicecap (rows.length + src.length) c * i.bytes) > 2 ^ 48) := by
      have := growslice_fits (need := rows.length + src.length) (old := c) (bytes := by_) hneed hby
      rw [hbytes]
      omega
    have hask : ∀ n w', (askRoom n).run P w' = .ok () w' := fun n w' => by unfold askRoom; split <;> rfl
    have hforced : q.forced = false := rfl
    have hnum' : ¬ ((((rows.length : Int) + (src.length : Int)) > IntKind.i64.max) ∧ (False ∨ i.bytes = 0)) := fun hh => by have := hh.1; omega
    have hnum2 : ¬ (((rows.length + src.length : Nat) : Int) > IntKind.i64.max) := by omega
    have hchoose : (choose q).run P w = .ok cap w.drew := by
      show (if q.forced = true then _ else _ : Result Nat) = _
      rw [hforced]
      simp only [Bool.false_eq_true, if_false]
      rw [← hq]
      rfl
    have hch : (choose (.appendCap (rows.length + src.length) c e)).run P w = .ok cap w.drew := hchoose
    have hfits' : ¬ (2 ^ 48 < Builtin.nextslicecap (rows.length + src.length) c * i.bytes) := hfits
    simp only [Builtin.append_, Sem.run_bind, run_underlying hu, run_underlying hu2, run_sizeOf hi, Result.andThen_ok, List.getElem?_toArray, List.getElem?_cons_zero, List.getElem?_cons_succ, Sem.run_pure, hsz, hnint, hlen, bind_assoc, pure_bind, Bool.false_eq_true, if_false]
    rw [if_neg hfit]
    have hti : ∀ w', (typeInfo e).run P w' = .ok i w' := fun w' => by simp [typeInfo, hi]
    have hzv : (zeroValue e).run P w.drew = .ok z w.drew := by simp [zeroValue, typeInfo, hi, hz1]
    have hb1 : (if ((rows.length + src.length : Nat) : Int) > IntKind.i64.max then (do pure (decide (false = true ∨ (← typeInfo e).bytes = 0)) : Sem Bool) else pure false).run P w = .ok false w := by rw [if_neg hnum2]; rfl
    simp only [Sem.run_bind, Sem.run_ite, Result.andThen_ok, hti, hod, hd, hask, hch, hzv, Sem.run_pure, hfits, if_false, bind_assoc, pure_bind]
    rw [if_neg (fun hh => hnum2 hh.1)]
    simp [hti, hfits', hod, hd, hzv, hask, newRow, newObj, Sem.run]
    simp [vs]
/-- rows of what is appended -/
def srcR : AV → Option (Nat × List (List D))
  | .d (.slc k r) => some (k, r)
  | .own _ k r => some (k, r)
  | .nils => some (1, [])
  | .d (.str s) => some (1, byteRows s)
  | _ => none
def freshT (t : Nat) : List Nat → Prop
  | [] => True
  | x :: r => ((x == t) = false ∧ (t == x) = false) ∧ freshT t r
theorem fresh_tok : ∀ {l : List Nat} {t : Nat}, (∀ x ∈ l, x ≠ t) → freshT t l
  | [], _, _ => trivial
  | x :: r, t, h => ⟨⟨by simpa using h x (List.mem_cons_self ..), by simpa using (h x (List.mem_cons_self ..)).symm⟩, fresh_tok fun y hy => h y (List.mem_cons_of_mem _ hy)⟩
theorem src_ok {a : AV} {k k' : Nat} {r : List (List D)} {v : Value} (hk : 0 < k) (e : srcR a = some (k', r)) (hkk : k' = k ∨ r = []) (S : Sim T G h w) (hv : VR G a v) :
    ∃ new, CellRows G.frz k r new ∧ (∀ w', (Builtin.lenOf v).run P w' = .ok r.length w') ∧ ∀ w' : World, w'.heap = w.heap → (Builtin.firstCells k r.length v).run P w' = .ok new.toArray w' := by
  have slc : ∀ {k' : Nat} {r : List (List D)}, (k' = k ∨ r = []) → VD G.frz (.slc k' r) v → ∃ new, CellRows G.frz k r new ∧ (∀ w', (Builtin.lenOf v).run P w' = .ok r.length w') ∧ ∀ w' : World, w'.heap = w.heap → (Builtin.firstCells k r.length v).run P w' = .ok new.toArray w' := fun hkk hd => by
    have hd' := hd.slc_k hkk
    obtain ⟨A, c, rfl, _⟩ := hd'.slc_inv
    obtain ⟨cells, h1, h2, _⟩ := VD.to_cells (P := P) (w := w) hk hd' S.frz
    exact ⟨cells, h1, fun w' => rfl, h2⟩
  unfold srcR at e
  split at e
  · injection e with e
    simp only [Prod.mk.injEq] at e
    obtain ⟨rfl, rfl⟩ := e
    cases hv with | d hd => exact slc hkk hd
  · injection e with e
    simp only [Prod.mk.injEq] at e
    obtain ⟨rfl, rfl⟩ := e
    cases hv with | own hd _ => exact slc hkk hd
  · injection e with e
    simp only [Prod.mk.injEq] at e
    obtain ⟨rfl, rfl⟩ := e
    cases hv
    exact slc (k' := k) (.inl rfl) (.slc0 k none 0 (fun _ => rfl) (by decide))
  · rename_i s
    injection e with e
    simp only [Prod.mk.injEq] at e
    obtain ⟨rfl, rfl⟩ := e
    obtain ⟨t, rfl, h1, _⟩ := hv.str_inv
    subst h1
    have hlen : (byteRows t.data.toList).length = t.size := by unfold byteRows; rw [List.length_map, size_data]
    have hk1 : k = 1 ∨ t.size = 0 := hkk.elim (fun e => .inl e.symm) (fun e => .inr (by rw [← hlen, e]; rfl))
    refine ⟨t.data.toList.map fun b => .int .u8 (b.toNat : Int), ⟨?_, fun r hr => ?_, fun v hv => ?_, fun i r j x e1 e2 => ?_⟩, fun w' => by rw [hlen]; rfl, fun w' _ => ?_⟩
    · rw [hlen, List.length_map, size_data]
      rcases hk1 with rfl | h0
      · omega
      · simp [h0]
    · unfold byteRows at hr
      obtain ⟨c, hc, rfl⟩ := List.mem_map.1 hr
      rcases hk1 with rfl | h0
      · rfl
      · have : t.data.toList = [] := List.eq_nil_of_length_eq_zero (by rw [size_data]; exact h0)
        rw [this] at hc
        cases hc
    · obtain ⟨c, _, rfl⟩ := List.mem_map.1 hv
      rfl
    · obtain ⟨c, h1, rfl⟩ := byteRows_get e1
      have hk1 : k = 1 := hk1.resolve_right (fun h0 => by
        have := (List.getElem?_eq_some_iff.1 h1).1
        rw [size_data] at this
        omega)
      subst hk1
      cases j with
      | zero => simp at e2; subst e2; exact ⟨.int .u8 (c.toNat : Int), by simp [h1], .int _ _⟩
      | succ j => simp at e2
    · rw [hlen]
      simp [Builtin.firstCells]
      exact Array.ext' (by simp)
  · cases e
variable {sl : List AV} {ops : Array Oper} {rest : List Oper} {o : Oper} {K : List AV → AH → Prop} {X : AV → AH → Prop} {cp : Bool}
theorem effK_append {s x : Operand} {tys : Array TypeId} (ho : o.op = .call { callee := .builtin .append, args := #[s, x], argTypes := tys }) (hg : o.guard = none) : effK cp o = true := by
  unfold effK
  rw [hg, ho]
/-- append to a slice of one's own -/
theorem DW.app {s x : Operand} {t t2 e k by_ tk : Nat} {rows src : List (List D)} {k' : Nat} (ho : o.op = .call { callee := .builtin .append, args := #[s, x], argTypes := #[t, t2] }) (hg : o.guard = none) (hs : ev T sl s = .own tk k rows) (hx : srcR (ev T sl x) = some (k', src))
    (hsl : slI P t = some (e, k, by_)) (ht2 : (P.underlying t2).isSome = true) (hti : intI P t2 = none) (hlive : h.live.contains tk = true) (hkk : k' = k ∨ src = []) (h63 : rows.length + src.length ≤ 9223372036854775807) (hby : (rows.length + src.length) * by_ ≤ 140737488355328)
    (kk : ∀ t', freshT t' h.live → lvc P T cp ops rest (putA o.dst (.own t' k (rows ++ src)) sl) ⟨h.objs, replT tk t' h.live⟩ K X) : DW P T cp ops (o :: rest) sl h K X := by
  unfold DW
  rw [if_pos (effK_append ho hg)]
  refine ⟨hg, fun G w a S hv Kc Q hK _ => ?_⟩
  obtain ⟨_, _, _, _, _, _, hk⟩ := slI_inv hsl
  have hvs := hv s (by simp [ho, Op.operands, Call.operands])
  have hvx := hv x (by simp [ho, Op.operands, Call.operands])
  rw [hs] at hvs
  generalize hz : a.eval s = z at hvs
  cases hvs with
  | own hd hT =>
    obtain ⟨A, c, rfl, _⟩ := hd.slc_inv
    obtain ⟨new, h1, h2, h3⟩ := src_ok (P := P) hk hx hkk S hvx
    obtain ⟨d2, hd2⟩ := Option.isSome_iff_exists.1 ht2
    obtain ⟨G', v, w', hrun, hG', S', hv'⟩ := run_append o.type hsl ⟨d2, hd2, fun kk e => by unfold intI at hti; rw [hd2, e] at hti; cases hti⟩ S (by simpa using hlive) hd hT h1 h2 h3 (by unfold maxLen; omega) hby
    have hrun' : (execOp a.eval o).run P w = .ok (.value v) w' := by
      unfold execOp
      simp only [ho, resolve, invoke, builtin, Sem.run_bind, Sem.run_pure, Result.andThen_ok, List.map_toArray, List.map_cons, List.map_nil, hz, hrun]
    unfold Oper.wp
    rw [hrun']
    refine hK _ _ G' v w' (lvc_ok rest _ _ (kk G.nt (fresh_tok fun y hy e => ?_))) hG' S' hv'
    obtain ⟨_, _, _, _, e2, _⟩ := (S.liv _ hy).mem
    rw [S.fin y (by omega)] at e2
    cases e2
theorem Sim.newNil (S : Sim T G h w) {k : Nat} (hk : 0 < k) : ∃ G' : Gh, Gle G G' ∧ Sim T G' ⟨h.objs, G.nt :: h.live⟩ w ∧ G'.tok G.nt = some (k, .slice none 0 0) ∧ G'.nt = G.nt + 1 := by
  let G' : Gh := { G with tok := fun t => if t = G.nt then some (k, .slice none 0 0) else G.tok t, nt := G.nt + 1 }
  have hG : Gle G G' := ⟨rfl, fun _ _ _ e => e, fun _ _ _ e => .inl e, fun t x e => by
    show (if t = G.nt then _ else _) = _
    rw [if_neg (fun e' => by rw [S.fin t (by omega)] at e; cases e)]
    exact e⟩
  have S1 : Sim T G' h w := S.grow (Below.refl _ _) hG (fun t ht => by
      show (if t = G.nt then _ else _) = _
      have ht' : G.nt + 1 ≤ t := ht
      rw [if_neg (by omega)]
      exact S.fin t (by omega)) (fun _ _ _ e => .inl e) S.frz
  have hnew : tokBlk G' G.nt = none := by
    unfold tokBlk
    show (match (if G.nt = G.nt then some (k, Value.slice none 0 0) else _) with | some (_, .slice (some a) _ _) => some a.block | _ => none) = none
    rw [if_pos rfl]
  have htok : G'.tok G.nt = some (k, .slice none 0 0) := by show (if G.nt = G.nt then _ else _) = _; rw [if_pos rfl]
  refine ⟨G', hG, ⟨S1.below, S1.glob, S1.frz, S1.fin, S1.obj, S1.nd, fun t ht => ?_, List.pairwise_cons.2 ⟨fun t ht g h1 => (by rw [hnew] at h1; cases h1), S1.tdis⟩, fun t ht g hg => ?_, List.nodup_cons.2 ⟨fun hm => ?_, S.lnd⟩⟩, htok, rfl⟩
  · rcases List.mem_cons.1 ht with rfl | ht
    · exact ⟨k, 0, 0, none, htok, Nat.le_refl _, by decide, hk, fun _ => ⟨rfl, rfl⟩, fun a e => by cases e⟩
    · exact S1.liv t ht
  · rcases List.mem_cons.1 ht with rfl | ht
    · rw [hnew] at hg; cases hg
    · exact S1.todis t ht g hg
  · obtain ⟨_, _, _, _, e, _⟩ := (S.liv _ hm).mem
    rw [S.fin _ (Nat.le_refl _)] at e
    cases e
/-- append to nil -/
theorem DW.appNil {s x : Operand} {t t2 e k by_ : Nat} {src : List (List D)} {k' : Nat} (ho : o.op = .call { callee := .builtin .append, args := #[s, x], argTypes := #[t, t2] }) (hg : o.guard = none) (hs : ev T sl s = .nils) (hx : srcR (ev T sl x) = some (k', src))
    (hsl : slI P t = some (e, k, by_)) (ht2 : (P.underlying t2).isSome = true) (hti : intI P t2 = none) (hkk : k' = k ∨ src = []) (h63 : src.length ≤ 9223372036854775807) (hby : src.length * by_ ≤ 140737488355328)
    (kk : ∀ t', freshT t' h.live → lvc P T cp ops rest (putA o.dst (.own t' k src) sl) ⟨h.objs, t' :: h.live⟩ K X) : DW P T cp ops (o :: rest) sl h K X := by
  unfold DW
  rw [if_pos (effK_append ho hg)]
  refine ⟨hg, fun G w a S hv Kc Q hK _ => ?_⟩
  obtain ⟨_, _, _, _, _, _, hk⟩ := slI_inv hsl
  have hvs := hv s (by simp [ho, Op.operands, Call.operands])
  have hvx := hv x (by simp [ho, Op.operands, Call.operands])
  rw [hs] at hvs
  generalize hz : a.eval s = z at hvs
  cases hvs
  obtain ⟨G1, hG1, S1, hT, hnt⟩ := S.newNil hk
  obtain ⟨new, h1, h2, h3⟩ := src_ok (P := P) hk hx hkk S1 (hvx.mono hG1)
  obtain ⟨d2, hd2⟩ := Option.isSome_iff_exists.1 ht2
  obtain ⟨G', v, w', hrun, hG', S', hv'⟩ := run_append (rows := []) (A := none) (c := 0) o.type hsl ⟨d2, hd2, fun kk e => by unfold intI at hti; rw [hd2, e] at hti; cases hti⟩ S1 (List.mem_cons_self ..) (.slc0 k none 0 (fun _ => rfl) (by decide)) hT h1 h2 h3 (by unfold maxLen; simp only [List.length_nil]; omega) (by simpa using hby)
  have hrun' : (execOp a.eval o).run P w = .ok (.value v) w' := by
    unfold execOp
    simp only [List.length_nil] at hrun
    simp only [ho, resolve, invoke, builtin, Sem.run_bind, Sem.run_pure, Result.andThen_ok, List.map_toArray, List.map_cons, List.map_nil, hz, hrun]
  unfold Oper.wp
  rw [hrun']
  have hrep : replT G.nt G1.nt (G.nt :: h.live) = G1.nt :: h.live := by simp [replT]
  rw [hrep] at S'
  refine hK _ _ G' v w' (lvc_ok rest _ _ (kk G1.nt (fresh_tok fun y hy e => ?_))) (hG1.trans hG') S' (by simpa using hv')
  obtain ⟨_, _, _, _, e2, _⟩ := (S.liv _ hy).mem
  rw [S.fin y (by omega)] at e2
  cases e2
end
end Go.Proofs.YtnoboapafndnlaaDoor

/- Texts that the laws rest on, packed. -/
import Derived.Test.YthhfbolhlbgbgaaDoorGB
namespace Go.Proofs.YthhfbolhlbgbgaaDoor
open Go.RowKit
set_option linter.unusedSimpArgs false
set_option linter.unusedVariables false
/-- a slice over an object's rows; no rows: nil -/
def mA (b k c n : Nat) : AV := if c = 0 then .full k [] else .arr b k n c
def mO (b k c : Nat) (rows : List (List AV)) (F : List (Nat × Ob)) : List (Nat × Ob) := if c = 0 then F else (b, ⟨k, c, rows⟩) :: F
theorem mA_nil (b k n : Nat) : mA b k 0 n = .full k [] := rfl
theorem mA_pos {b k c n : Nat} (h : 0 < c) : mA b k c n = .arr b k n c := if_neg (by omega)
theorem mO_nil (b k : Nat) (rows : List (List AV)) (F : List (Nat × Ob)) : mO b k 0 rows F = F := rfl
theorem mO_pos {b k c : Nat} {rows : List (List AV)} {F : List (Nat × Ob)} (h : 0 < c) : mO b k c rows F = (b, ⟨k, c, rows⟩) :: F := if_neg (by omega)
def dRows (src : List (List D)) : List (List AV) := src.map fun r => r.map .d
section
variable {P : Program} {T : Tbl} {G : Gh} {h : AH} {w : World}
theorem append_genM {t t2 e k by_ : Nat} (ty : TypeId) (hsl : slI P t = some (e, k, by_)) (ht2 : ∃ d, P.underlying t2 = some d ∧ ∀ kk, d ≠ .int kk) {B : Nat} (hB : B ≤ w.heap.size) {n m : Nat} {A : Option Addr} {c : Nat}
    {x : Value} {old new : List Value} (holdlen : old.length = n * k) (hcells : new.length = m * k) (hone : ∀ v ∈ new, v.oneCell' = true) (hlen : ∀ w', (Builtin.lenOf x).run P w' = .ok m w')
    (hread : ∀ w' : World, w'.heap = w.heap → (Builtin.firstCells k m x).run P w' = .ok new.toArray w') (h63 : n + m ≤ maxLen) (hby : (n + m) * by_ ≤ 140737488355328) (hm : 0 < m)
    (ho2 : ∀ w' : World, w'.heap = w.heap → (Builtin.firstCells k n (.slice A n c)).run P w' = .ok old.toArray w') (hcm : c ≤ maxLen)
    (hA0 : A = none → c = 0) (hA : ∀ a, A = some a → 0 < c → ∃ (g : Nat) (vs : Array Value) (ety : TypeId) (fz : Nat × Nat), a = ⟨g, 0, none⟩ ∧ B ≤ g ∧ w.heap[g]? = some (.cells vs ety fz) ∧ vs.size = c * k ∧
      (∀ o, o < vs.size → (decide (fz.1 ≤ o) && decide (o < fz.2)) = false) ∧ ∀ o, o < n * k → vs[o]? = old[o]?)
    {R : Value → World → Prop}
    (fin : ∀ (b c2 : Nat) (w' : World) (vs : Array Value) (ty : TypeId) (fz : Nat × Nat), B ≤ b → n + m ≤ c2 → c2 ≤ maxLen → Below B w w' → w'.heap[b]? = some (.cells vs ty fz) → vs.size = c2 * k →
      (∀ o, o < vs.size → (decide (fz.1 ≤ o) && decide (o < fz.2)) = false) → (∀ o, o < (n + m) * k → vs[o]? = (old ++ new)[o]?) → (∀ b', b' ≠ b → b' < w.heap.size → w'.heap[b']? = w.heap[b']?) →
      ((A = some ⟨b, 0, none⟩ ∧ 0 < c) ∨ b = w.heap.size) → R (.slice (some ⟨b, 0, none⟩) (n + m) c2) w') :
    ∃ v w', (Builtin.append_ #[t, t2] ty #[.slice A n c, x]).run P w = .ok v w' ∧ R v w' := by
  obtain ⟨i, hu, hi, hsz, hbytes, hz, hk⟩ := slI_inv hsl
  obtain ⟨z, hz1, hz2⟩ := Option.map_eq_some_iff.1 hz
  obtain ⟨d2, hu2, hd2⟩ := ht2
  have hnint : (match d2 with | .int _ => true | _ => false) = false := by cases d2 <;> first | rfl | exact absurd rfl (hd2 _)
  have hnum2 : ¬ (((n + m : Nat) : Int) > IntKind.i64.max) := by
    have : IntKind.i64.max = 9223372036854775807 := by decide
    unfold maxLen at h63
    omega
  by_cases hfit : n + m ≤ c
  · cases A with
    | none =>
      have := hA0 rfl
      omega
    | some a =>
      obtain ⟨g, vs, ety, fz, rfl, hgb, hheap, hvs, hfz, hsame⟩ := hA a rfl (by omega)
      have hle : (n + m) * k ≤ vs.size := by rw [hvs]; exact Nat.mul_le_mul_right _ hfit
      obtain ⟨vs', q1, q2, q3⟩ := setCells_heap g new (n * k) w vs ety fz hheap
      have hR := fin g c (w.setCells g (n * k) new) vs' ety fz hgb hfit hcm ((setCells_wrote g _ _ w).below hgb) q1 (by rw [q2]; exact hvs) (by rw [q2]; exact hfz) (fun o ho => by
          rw [q3 o (by omega)]
          by_cases hon : n * k ≤ o
          · rw [if_pos (by rw [hcells]; rw [Nat.add_mul] at ho; omega), List.getElem?_append_right (by omega), holdlen]
          · rw [if_neg (by omega), List.getElem?_append_left (by omega)]
            exact hsame o (by omega)) (fun b' hb' _ => (setCells_wrote g _ _ w).block b' hb') (.inl ⟨rfl, by omega⟩)
      refine ⟨_, _, ?_, hR⟩
      have h1 := hread w rfl
      have hst := run_storeCells_cells (P := P) g (n * k) new 0 w (fun j hj => by
          rw [cell_of_row _ _ _ vs ety fz hheap, Nat.add_zero, Array.getElem?_eq_getElem (by rw [Nat.add_mul] at hle; omega)]
          rfl) (fun j hj => by
          have := hfz (n * k + j) (by rw [Nat.add_mul] at hle; omega)
          simp only [World.frozen?, hheap, Nat.add_zero]
          exact this) hone
      simp only [Nat.add_zero] at hst
      simp [Builtin.append_, run_underlying hu, run_sizeOf hi, hsz, run_underlying hu2, hnint, hlen, h1, hfit, add_at, hst]
  · have hneed : c < n + m := by omega
    let q := Question.appendCap (n + m) c e
    have hcap : n + m ≤ q.cut (w.tape w.drawn q) ∧ q.cut (w.tape w.drawn q) ≤ maxLen := by
      have h0 : 0 < 2 ^ 63 - (n + m) := by unfold maxLen at h63; omega
      have := Nat.mod_lt (w.tape w.drawn q) h0
      show n + m ≤ n + m + w.tape w.drawn q % _ ∧ _ + w.tape w.drawn q % _ ≤ _
      unfold maxLen at *
      omega
    generalize hq : q.cut (w.tape w.drawn q) = cap at hcap
    let vs : Array Value := old.toArray ++ new.toArray ++ Builtin.zeroCells z.cells (cap - (n + m))
    have hzs : (Builtin.zeroCells z.cells (cap - (n + m))).size = (cap - (n + m)) * k := by simp [Builtin.zeroCells, hz2]
    have hvs : vs.size = cap * k := by
      show (old.toArray ++ new.toArray ++ _).size = _
      rw [Array.size_append, Array.size_append, hzs]
      simp only [List.size_toArray, holdlen, hcells]
      rw [← Nat.add_mul, ← Nat.add_mul]
      congr 1
      omega
    have hR := fin w.heap.size cap (w.drew.alloc (.cells vs e)) vs e (0, 0) hB hcap.1 hcap.2 ((Below.refl _ _).drew.alloc hB _) (heap_alloc_new w.drew _) hvs (fun o _ => by simp) (fun o ho => by
        have h1 : o < (old ++ new).length := by rw [List.length_append, holdlen, hcells, ← Nat.add_mul]; exact ho
        show (old.toArray ++ new.toArray ++ _)[o]? = _
        rw [Array.getElem?_append_left (by simpa using h1)]
        simp) (fun b' hb' hlt => Below.heap_alloc w.drew _ b' hlt) (.inr rfl)
    refine ⟨_, _, ?_, hR⟩
    have hd := hread w.drew rfl
    have hod := ho2 w.drew rfl
    have hfits : ¬ ((Builtin.nextslicecap (n + m) c * i.bytes) > 2 ^ 48) := by
      have := growslice_fits (need := n + m) (old := c) (bytes := by_) hneed hby
      rw [hbytes]
      omega
    have hask : ∀ n w', (askRoom n).run P w' = .ok () w' := fun n w' => by unfold askRoom; split <;> rfl
    have hforced : q.forced = false := rfl
    have hchoose : (choose q).run P w = .ok cap w.drew := by
      show (if q.forced = true then _ else _ : Result Nat) = _
      rw [hforced]
      simp only [Bool.false_eq_true, if_false]
      rw [← hq]
      rfl
    have hch : (choose (.appendCap (n + m) c e)).run P w = .ok cap w.drew := hchoose
    have hfits' : ¬ (2 ^ 48 < Builtin.nextslicecap (n + m) c * i.bytes) := hfits
    simp only [Builtin.append_, Sem.run_bind, run_underlying hu, run_underlying hu2, run_sizeOf hi, Result.andThen_ok, List.getElem?_toArray, List.getElem?_cons_zero, List.getElem?_cons_succ, Sem.run_pure, hsz, hnint, hlen, bind_assoc, pure_bind, Bool.false_eq_true, if_false]
    rw [if_neg hfit]
    have hti : ∀ w', (typeInfo e).run P w' = .ok i w' := fun w' => by simp [typeInfo, hi]
    have hzv : (zeroValue e).run P w.drew = .ok z w.drew := by simp [zeroValue, typeInfo, hi, hz1]
    simp only [Sem.run_bind, Sem.run_ite, Result.andThen_ok, hti, hod, hd, hask, hch, hzv, Sem.run_pure, hfits, if_false, bind_assoc, pure_bind]
    rw [if_neg (fun hh => hnum2 hh.1)]
    simp [hti, hfits', hod, hd, hzv, hask, newRow, newObj, Sem.run]
    simp [vs]
/-- an object in a block that was fresh, or was its own -/
theorem Sim.setM {H F : List (Nat × Ob)} {L : List Nat} {w' : World} (S : Sim T G ⟨H, L⟩ w) (hF : F.Sublist H) {b : Nat} {ob : Ob} (hno : ∀ o, G.frz b o = none) (hbF : b ∉ F.map Prod.fst) (hbt : ∀ t ∈ L, tokBlk G t ≠ some b)
    (hbel : Below G.base.heap.size w w') (hoth : ∀ b', b' ≠ b → b' < w.heap.size → w'.heap[b']? = w.heap[b']?) (hob : ObR G w' b ob) : Sim T G ⟨(b, ob) :: F, L⟩ w' := by
  refine ⟨S.below.trans hbel, S.glob, fun b' o u e => ?_, S.fin, fun p hp => ?_, ?_, fun t ht => ?_, S.tdis, fun t ht g hg => ?_, S.lnd⟩
  · by_cases hbb : b' = b
    · subst hbb; rw [hno] at e; cases e
    · have := S.frz b' o u e
      rw [← this]
      exact World.cell?_of_block (w := w) (a := ⟨b', o, none⟩) (hoth b' hbb (S.frzlt e))
  · rcases List.mem_cons.1 hp with rfl | hp
    · exact hob
    · have hO := S.obj p (hF.subset hp)
      exact hO.world (hoth _ (fun e => hbF (by rw [← e]; exact List.mem_map_of_mem hp)) hO.lt)
  · rw [List.map_cons, List.nodup_cons]
    exact ⟨hbF, S.nd.sublist (hF.map _)⟩
  · have hL := S.liv t ht
    exact hL.world (fun g hg => hoth g (fun e => hbt t ht (by rw [← e]; exact hg)) (hL.lt hg))
  · rw [List.map_cons, List.mem_cons]
    rintro (rfl | hm)
    · exact hbt t ht hg
    · exact S.todis t ht g hg ((hF.map _).subset hm)
/-- cells of rows -/
def ARows (G : Gh) (k : Nat) (src : List (List AV)) (cells : List Value) : Prop :=
  cells.length = src.length * k ∧ (∀ r ∈ src, r.length = k) ∧ (∀ v ∈ cells, v.oneCell' = true) ∧ ∀ (i : Nat) (r : List AV) (j : Nat) (a : AV), src[i]? = some r → r[j]? = some a → a.one = true ∧ ∃ v, cells[i * k + j]? = some v ∧ VR G a v
theorem dRows_get {src : List (List D)} {i : Nat} {r : List AV} (h : (dRows src)[i]? = some r) : ∃ q, src[i]? = some q ∧ r = q.map .d := by
  unfold dRows at h
  rw [List.getElem?_map] at h
  obtain ⟨q, h1, h2⟩ := Option.map_eq_some_iff.1 h
  exact ⟨q, h1, h2.symm⟩
@[go_sem] theorem dRows_len (src : List (List D)) : (dRows src).length = src.length := by simp [dRows]
theorem CellRows.a {k : Nat} {src : List (List D)} {cells : List Value} (h : CellRows G.frz k src cells) : ARows G k (dRows src) cells :=
  ⟨by rw [dRows_len]; exact h.1, fun r hr => by
    obtain ⟨q, hq, rfl⟩ := List.mem_map.1 hr
    rw [List.length_map]; exact h.2.1 q hq, h.2.2.1, fun i r j a e1 e2 => by
    obtain ⟨q, h1, rfl⟩ := dRows_get e1
    rw [List.getElem?_map] at e2
    obtain ⟨d, hd, rfl⟩ := Option.map_eq_some_iff.1 e2
    obtain ⟨v, h3, h4⟩ := h.2.2.2 _ _ _ _ h1 hd
    exact ⟨rfl, v, h3, .d h4⟩⟩
theorem run_appendM {t t2 e k by_ : Nat} (ty : TypeId) (hsl : slI P t = some (e, k, by_)) (ht2 : ∃ d, P.underlying t2 = some d ∧ ∀ kk, d ≠ .int kk) {b0 c0 : Nat} {rows : List (List AV)} {F : List (Nat × Ob)} {L : List Nat} {src : List (List AV)} (hc0 : c0 = 0 → rows = [])
    (S : Sim T G ⟨mO b0 k c0 rows F, L⟩ w) (hfull : ∀ r ∈ rows, r.length = k) {v0 : Value} (hv : VR G (mA b0 k c0 rows.length) v0) {x : Value} {new : List Value} (hnew : ARows G k src new) (hlen : ∀ w', (Builtin.lenOf x).run P w' = .ok src.length w')
    (hread : ∀ w' : World, w'.heap = w.heap → (Builtin.firstCells k src.length x).run P w' = .ok new.toArray w') (h63 : rows.length + src.length ≤ maxLen) (hby : (rows.length + src.length) * by_ ≤ 140737488355328) (hm : 0 < src.length) :
    ∃ v w', (Builtin.append_ #[t, t2] ty #[v0, x]).run P w = .ok v w' ∧ ∃ b c, 0 < c ∧ freshL b F ∧ Sim T G ⟨(b, ⟨k, c, rows ++ src⟩) :: F, L⟩ w' ∧ VR G (.arr b k (rows.length + src.length) c) v := by
  obtain ⟨_, _, _, _, _, _, hk⟩ := slI_inv hsl
  have hcells : new.length = src.length * k := hnew.1
  -- what the append needs of memory
  obtain ⟨A, c, old, rfl, holdlen, ho2, hcm, hA0, hA, hF, hval, hbo⟩ : ∃ (A : Option Addr) (c : Nat) (old : List Value), v0 = .slice A rows.length c ∧ old.length = rows.length * k ∧ (∀ w' : World, w'.heap = w.heap → (Builtin.firstCells k rows.length (.slice A rows.length c)).run P w' = .ok old.toArray w') ∧ c ≤ maxLen ∧
      (A = none → c = 0) ∧ (∀ a, A = some a → 0 < c → ∃ (g : Nat) (vs : Array Value) (ety : TypeId) (fz : Nat × Nat), a = ⟨g, 0, none⟩ ∧ G.base.heap.size ≤ g ∧ w.heap[g]? = some (.cells vs ety fz) ∧ vs.size = c * k ∧
        (∀ o, o < vs.size → (decide (fz.1 ≤ o) && decide (o < fz.2)) = false) ∧ ∀ o, o < rows.length * k → vs[o]? = old[o]?) ∧ F.Sublist (mO b0 k c0 rows F) ∧
      (∀ (i : Nat) (r : List AV) (j : Nat) (a : AV), rows[i]? = some r → r[j]? = some a → a.one = true ∧ ∃ v, old[i * k + j]? = some v ∧ VR G a v) ∧
      (∀ b, A = some ⟨b, 0, none⟩ → 0 < c → (∀ o, G.frz b o = none) ∧ b ∉ F.map Prod.fst ∧ ∀ t ∈ L, tokBlk G t ≠ some b) := by
    rcases Nat.eq_zero_or_pos c0 with h0 | h0
    · have hr : rows = [] := hc0 h0
      subst hr
      subst h0
      rw [mA_nil] at hv
      cases hv with
      | @full _ _ A hd =>
      refine ⟨A, 0, [], rfl, by simp, fun w' _ => ?_, by decide, fun _ => rfl, fun a e h => (by omega), List.Sublist.refl _, fun i r j a e => by simp at e, fun b e h => by omega⟩
      cases A <;> simp [Builtin.firstCells, loadCells, loadCellsFrom]
    · rw [mA_pos h0] at hv
      rw [mO_pos h0] at S ⊢
      cases hv
      have hO := S.obj _ (List.mem_cons_self ..)
      obtain ⟨vs, ety, fz, hheap, hvs, hfz, hm⟩ := hO.mem
      have hfit := hO.fits
      dsimp only at hvs hm hheap hfit
      have hle : rows.length * k ≤ vs.size := by rw [hvs]; exact Nat.mul_le_mul_right _ hfit
      have hcell : ∀ o, o < rows.length * k → (vs.toList.take (rows.length * k))[o]? = vs[o]? := fun o ho => by rw [List.getElem?_take_of_lt ho, Array.getElem?_toList]
      refine ⟨some ⟨b0, 0, none⟩, c0, vs.toList.take (rows.length * k), rfl, by simp; exact Nat.min_eq_left hle, fun w' hw' => ?_, hO.cmax, (fun e => by cases e), fun a e _ => ?_, List.sublist_cons_self .., fun i r j a h1 h2 => ?_, fun b e _ => ?_⟩
      · have := run_loadCells_list (P := P) w' ⟨b0, 0, none⟩ (vs.toList.take (rows.length * k)) (fun q v hv => by
          have hq : q < rows.length * k := by
            have := (List.getElem?_eq_some_iff.1 hv).1
            simp at this; omega
          rw [hcell q hq] at hv
          rw [add_at, Nat.zero_add]
          have := cell_of_row w b0 q vs ety fz hheap
          rw [hv] at this
          simpa [World.cell?, hw'] using this)
        simpa [Builtin.firstCells, Nat.min_eq_left hle] using this
      · injection e with e
        exact ⟨b0, vs, ety, fz, e.symm, hO.low, hheap, hvs, hfz, fun o ho => (hcell o ho).symm⟩
      · obtain ⟨h3, v, h4, h5⟩ := hm i r j a h1 h2
        refine ⟨h3, v, ?_, h5⟩
        have hi : i < rows.length := (List.getElem?_eq_some_iff.1 h1).1
        have hj : j < k := by rw [← hfull r (List.mem_of_getElem? h1)]; exact (List.getElem?_eq_some_iff.1 h2).1
        have hlt : i * k + j < rows.length * k := by
          calc i * k + j < i * k + k := by omega
            _ = (i + 1) * k := by rw [Nat.succ_mul]
            _ ≤ rows.length * k := Nat.mul_le_mul_right _ (by omega)
        rw [hcell _ hlt]; exact h4
      · injection e with e
        injection e with e1
        subst e1
        refine ⟨fun o => ?_, (List.nodup_cons.1 S.nd).1, fun t ht e => S.todis t ht _ e (List.mem_cons_self ..)⟩
        rcases Nat.lt_or_ge o (rows.length * k) with ho | ho
        · have hi : o / k < rows.length := Nat.div_lt_of_lt_mul (by rw [Nat.mul_comm]; exact ho)
          have h1 : rows[o / k]? = some rows[o / k] := List.getElem?_eq_getElem hi
          have := hO.free (o / k) _ (o % k) h1 (by rw [hfull _ (List.getElem_mem hi)]; exact Nat.mod_lt _ hk)
          dsimp only at this
          rwa [← cells_div hk] at this
        · exact hO.rest o ho
  refine append_genM ty hsl ht2 S.below.size holdlen hcells hnew.2.2.1 hlen hread h63 hby hm ho2 hcm hA0 hA (R := fun v w' => ∃ b c, 0 < c ∧ freshL b F ∧ Sim T G ⟨(b, ⟨k, c, rows ++ src⟩) :: F, L⟩ w' ∧ VR G (.arr b k (rows.length + src.length) c) v) ?_
  intro b c2 w' vs ety fz hb hc2 hcm2 hbel hheap hvs hfz hsame hoth hwhere
  obtain ⟨hno, hbF, hbt⟩ : (∀ o, G.frz b o = none) ∧ b ∉ F.map Prod.fst ∧ ∀ t ∈ L, tokBlk G t ≠ some b := by
    rcases hwhere with ⟨e, hc⟩ | e
    · exact hbo b e hc
    · subst e
      refine ⟨fun o => S.nofrz (Nat.le_refl _) o, fun hm => ?_, fun t ht e => ?_⟩
      · obtain ⟨p, hp, e⟩ := List.mem_map.1 hm
        have := S.fresh p (hF.subset hp)
        omega
      · have := (S.liv t ht).lt e
        omega
  refine ⟨b, c2, by omega, fresh_objs fun p hp e => hbF (by rw [← e]; exact List.mem_map_of_mem hp), S.setM hF hno hbF hbt hbel hoth ⟨hb, fun _ _ _ _ _ => hno _, fun _ _ => hno _, fun r hr => .inl ?_, by simp; exact hc2, hcm2, vs, ety, fz, hheap, hvs, hfz, fun i r j a hr ha => ?_⟩, .arr b k _ c2⟩
  · rcases List.mem_append.1 hr with hr | hr
    · exact hfull r hr
    · exact hnew.2.1 r hr
  · dsimp only at hr ⊢
    have hik : ∀ {i n : Nat}, i < n → ∀ {j}, j < k → i * k + j < n * k := fun {i n} hi {j} hj => by
      calc i * k + j < i * k + k := by omega
        _ = (i + 1) * k := by rw [Nat.succ_mul]
        _ ≤ n * k := Nat.mul_le_mul_right _ (by omega)
    rcases Nat.lt_or_ge i rows.length with hi | hi
    · rw [List.getElem?_append_left hi] at hr
      obtain ⟨h3, v, h4, h5⟩ := hval i r j a hr ha
      have hj : j < k := by rw [← hfull r (List.mem_of_getElem? hr)]; exact (List.getElem?_eq_some_iff.1 ha).1
      have h6 := hik hi hj
      refine ⟨h3, v, ?_, h5⟩
      rw [hsame _ (by rw [Nat.add_mul]; omega), List.getElem?_append_left (by omega)]
      exact h4
    · rw [List.getElem?_append_right hi] at hr
      obtain ⟨h1, v, h3, h4⟩ := hnew.2.2.2 _ _ _ _ hr ha
      have hi2 : i - rows.length < src.length := (List.getElem?_eq_some_iff.1 hr).1
      have hj : j < k := by rw [← hnew.2.1 r (List.mem_of_getElem? hr)]; exact (List.getElem?_eq_some_iff.1 ha).1
      have h6 := hik hi2 hj
      have h7 : i * k + j = rows.length * k + ((i - rows.length) * k + j) := by
        rw [← Nat.add_assoc, ← Nat.add_mul]; congr 2; omega
      refine ⟨h1, v, ?_, h4⟩
      rw [hsame _ (by rw [Nat.add_mul]; omega), List.getElem?_append_right (by omega), holdlen, h7, Nat.add_sub_cancel_left]
      exact h3
/-- rows of a literal, whatever its cells are -/
def rowsM (k : Nat) : Nat → List (Nat × AV) → Option (List (List AV))
  | _, [] => some []
  | i, (j, a) :: r => if j = i ∧ a.cells.length = k ∧ a.plain = true then (match rowsM k (i + 1) r with
    | some l => some (a.cells :: l)
    | none => none) else none
theorem rowsM_fill {k : Nat} : ∀ (ps : List (Nat × AV)) (qs : List (Nat × Value)) (i : Nat) (cs : Array Value) (rows : List (List AV)), cs.size = (i + ps.length) * k → qs.length = ps.length →
    (∀ (j : Nat) (p : Nat × AV) (q : Nat × Value), ps[j]? = some p → qs[j]? = some q → p.1 = q.1 ∧ VR G p.2 q.2) → rowsM k i ps = some rows →
      ∃ vs', Instr.fill (fun i => some (i * k, k)) cs qs = some vs' ∧ vs'.size = cs.size ∧ (∀ j, j < i * k → vs'[j]? = cs[j]?) ∧ rows.length = ps.length ∧ (∀ r ∈ rows, r.length = k) ∧
        ∀ (n : Nat) (r : List AV) (j : Nat) (d : AV), rows[n]? = some r → r[j]? = some d → d.one = true ∧ ∃ v, vs'[(i + n) * k + j]? = some v ∧ VR G d v
  | [], [], i, cs, rows, hs, _, _, e => by
    simp [rowsM] at e
    subst e
    exact ⟨cs, rfl, rfl, fun _ _ => rfl, rfl, by simp, fun n r j d h => by simp at h⟩
  | (j0, a) :: ps, (j1, v) :: qs, i, cs, rows, hs, hl, hp, e => by
    obtain ⟨h0, hv⟩ := hp 0 _ _ rfl rfl
    dsimp only at h0 hv
    subst h0
    unfold rowsM at e
    split at e
    · rename_i hc
      obtain ⟨rfl, hk, hplain⟩ := hc
      split at e
      · rename_i l hr
        injection e with e
        subst e
        have hcells := hv.cells hplain
        have hsz : v.cells.size = k := by rw [← hk, ← hcells.1]; simp
        have hxl : a.cells.length = k := hk
        have hsz' : cs.size = (j0 + (ps.length + 1)) * k := by simpa using hs
        have hle : j0 * k + k ≤ cs.size := by rw [hsz', ← Nat.succ_mul]; exact Nat.mul_le_mul_right _ (by omega)
        have hset := foldl_set v.cells.toList 0 (j0 * k) cs (by simp [hsz]; exact hle)
        obtain ⟨vs', g1, g2, g3, g4, g5, g6⟩ := rowsM_fill ps qs (j0 + 1) (v.cells.zipIdx.foldl (fun cs (c, j) => cs.setIfInBounds (j0 * k + j) c) cs) l (by
            have := congrArg List.length hset
            rw [← Array.foldl_toList, Array.toList_zipIdx]
            rw [Array.length_toList] at this
            rw [this]
            simp [hsz]
            rw [hsz'] at hle ⊢
            have e1 : (j0 + 1 + ps.length) * k = (j0 + (ps.length + 1)) * k := by rw [show j0 + 1 + ps.length = j0 + (ps.length + 1) by omega]
            omega) (by simpa using hl) (fun i p q h1 h2 => hp (i + 1) p q (by simpa using h1) (by simpa using h2)) hr
        have hnew : ∀ j : Nat, (v.cells.zipIdx.foldl (fun cs (c, j) => cs.setIfInBounds (j0 * k + j) c) cs)[j]? = (cs.toList.take (j0 * k) ++ (v.cells.toList ++ cs.toList.drop (j0 * k + k)))[j]? := fun j => by
          have := congrArg (fun l : List Value => l[j]?) hset
          rw [← Array.foldl_toList, Array.toList_zipIdx, ← Array.getElem?_toList]
          simpa [hsz] using this
        have hsize : (v.cells.zipIdx.foldl (fun cs (c, j) => cs.setIfInBounds (j0 * k + j) c) cs).size = cs.size := by
          have := congrArg List.length hset
          rw [← Array.foldl_toList, Array.toList_zipIdx]
          rw [Array.length_toList] at this
          rw [this]
          simp [hsz]
          omega
        refine ⟨vs', ?_, by rw [g2, hsize], fun j hj => ?_, by simp [g4], ?_, fun n r j d e1 e2 => ?_⟩
        · simp only [Instr.fill]
          rw [if_neg (by simp [hsz]; omega)]
          exact g1
        · rw [g3 j (by rw [Nat.succ_mul]; omega), hnew, List.getElem?_append_left (by simp; omega), List.getElem?_take_of_lt hj, Array.getElem?_toList]
        · intro r hr'
          rcases List.mem_cons.1 hr' with rfl | hr'
          · exact hk
          · exact g5 r hr'
        · cases n with
          | zero =>
            simp only [List.getElem?_cons_zero, Option.some.injEq] at e1
            subst e1
            have hj : j < k := by rw [← hk]; exact (List.getElem?_eq_some_iff.1 e2).1
            have hvj : v.cells.toList[j]? = some (v.cells.toList[j]'(by simp [hsz]; exact hj)) := List.getElem?_eq_getElem _
            refine ⟨plain_one hplain d (List.mem_of_getElem? e2), _, ?_, hcells.2 j d _ e2 hvj⟩
            rw [Nat.add_zero, g3 _ (by rw [Nat.succ_mul]; omega), hnew, List.getElem?_append_right (by simp; omega)]
            have : j0 * k + j - (List.take (j0 * k) cs.toList).length = j := by simp; omega
            rw [this, List.getElem?_append_left (by simp [hsz]; exact hj)]
            exact hvj
          | succ n =>
            simp only [List.getElem?_cons_succ] at e1
            obtain ⟨q0, v', q1, q2⟩ := g6 n r j d e1 e2
            exact ⟨q0, v', by rw [show j0 + (n + 1) = j0 + 1 + n by omega]; exact q1, q2⟩
      · cases e
    · cases e
  | [], _ :: _, _, _, _, _, hl, _, _ => by simp at hl
  | _ :: _, [], _, _, _, _, hl, _, _ => by simp at hl
theorem obj_src {b k n c : Nat} {ob : Ob} (S : Sim T G h w) (hg : (b, ob) ∈ h.objs) (hk : ob.k = k) (hn : n = ob.rows.length) (hfull : ∀ r ∈ ob.rows, r.length = k) (hk0 : 0 < k) {v : Value} (hv : VR G (.arr b k n c) v) :
    ∃ new, ARows G k ob.rows new ∧ (∀ w', (Builtin.lenOf v).run P w' = .ok ob.rows.length w') ∧ ∀ w' : World, w'.heap = w.heap → (Builtin.firstCells k ob.rows.length v).run P w' = .ok new.toArray w' := by
  subst hk hn
  have hO := S.obj _ hg
  obtain ⟨vs, ety, fz, hheap, hvs, hfz, hm⟩ := hO.mem
  have hfit := hO.fits
  dsimp only at hvs hm hheap hfit
  have hle : ob.rows.length * ob.k ≤ vs.size := by rw [hvs]; exact Nat.mul_le_mul_right _ hfit
  have hcell : ∀ o, o < ob.rows.length * ob.k → (vs.toList.take (ob.rows.length * ob.k))[o]? = vs[o]? := fun o ho => by rw [List.getElem?_take_of_lt ho, Array.getElem?_toList]
  have hlt : ∀ (i : Nat) (r : List AV) (j : Nat) (a : AV), ob.rows[i]? = some r → r[j]? = some a → i * ob.k + j < ob.rows.length * ob.k := fun i r j a h1 h2 => by
    have hi : i < ob.rows.length := (List.getElem?_eq_some_iff.1 h1).1
    have hj : j < ob.k := by rw [← hfull r (List.mem_of_getElem? h1)]; exact (List.getElem?_eq_some_iff.1 h2).1
    calc i * ob.k + j < i * ob.k + ob.k := by omega
      _ = (i + 1) * ob.k := by rw [Nat.succ_mul]
      _ ≤ ob.rows.length * ob.k := Nat.mul_le_mul_right _ (by omega)
  cases hv
  refine ⟨vs.toList.take (ob.rows.length * ob.k), ⟨by simp; exact Nat.min_eq_left hle, hfull, fun v hv => ?_, fun i r j a h1 h2 => ?_⟩, fun w' => rfl, fun w' hw' => ?_⟩
  · obtain ⟨o, ho⟩ := List.mem_iff_getElem?.1 hv
    have hol : o < ob.rows.length * ob.k := by
      have := (List.getElem?_eq_some_iff.1 ho).1
      simp at this; omega
    have hi : o / ob.k < ob.rows.length := Nat.div_lt_of_lt_mul (by rw [Nat.mul_comm]; exact hol)
    have h1 : ob.rows[o / ob.k]? = some ob.rows[o / ob.k] := List.getElem?_eq_getElem hi
    have hj : o % ob.k < ob.rows[o / ob.k].length := by rw [hfull _ (List.getElem_mem hi)]; exact Nat.mod_lt _ hk0
    obtain ⟨g1, u, g2, g3⟩ := hm _ _ _ _ h1 (List.getElem?_eq_getElem hj)
    rw [← cells_div hk0] at g2
    rw [hcell o hol, g2] at ho
    injection ho with ho
    rw [← ho]; exact g3.one g1
  · obtain ⟨g1, u, g2, g3⟩ := hm i r j a h1 h2
    exact ⟨g1, u, by rw [hcell _ (hlt i r j a h1 h2)]; exact g2, g3⟩
  · have := run_loadCells_list (P := P) w' ⟨b, 0, none⟩ (vs.toList.take (ob.rows.length * ob.k)) (fun q v hv => by
      have hq : q < ob.rows.length * ob.k := by
        have := (List.getElem?_eq_some_iff.1 hv).1
        simp at this; omega
      rw [hcell q hq] at hv
      rw [add_at, Nat.zero_add]
      have := cell_of_row w b q vs ety fz hheap
      rw [hv] at this
      simpa [World.cell?, hw'] using this)
    simpa [Builtin.firstCells, Nat.min_eq_left hle] using this
variable {sl : List AV} {ops : Array Oper} {rest : List Oper} {o : Oper} {K : List AV → AH → Prop} {X : AV → AH → Prop} {cp : Bool} {Q : AQ}
theorem DW.appM {s x : Operand} {t t2 e k by_ b0 c0 : Nat} {rows : List (List AV)} {F : List (Nat × Ob)} {L : List Nat} {src : List (List D)} {k' : Nat} (ho : o.op = .call { callee := .builtin .append, args := #[s, x], argTypes := #[t, t2] }) (hg : o.guard = none) (hs : ev T sl s = mA b0 k c0 rows.length) (hh : h = ⟨mO b0 k c0 rows F, L⟩) (hc0 : c0 = 0 → rows = []) (hx : srcR (ev T sl x) = some (k', src))
    (hsl : slI P t = some (e, k, by_)) (ht2 : (P.underlying t2).isSome = true) (hti : intI P t2 = none) (hfull : ∀ r ∈ rows, r.length = k) (hkk : k' = k) (hm : 0 < src.length) (h63 : rows.length + src.length ≤ 9223372036854775807) (hby : (rows.length + src.length) * by_ ≤ 140737488355328)
    (kk : ∀ b c, 0 < c → freshL b F → lvc P T cp ops rest (putA o.dst (.arr b k (rows.length + src.length) c) sl) ⟨(b, ⟨k, c, rows ++ dRows src⟩) :: F, L⟩ K X) : DW P T cp ops (o :: rest) sl h K X := by
  subst hh
  unfold DW
  rw [if_pos (effK_append ho hg)]
  refine ⟨hg, fun G w a S hv Kc Q hK _ => ?_⟩
  obtain ⟨_, _, _, _, _, _, hk⟩ := slI_inv hsl
  have hvs := hv s (by simp [ho, Op.operands, Call.operands])
  have hvx := hv x (by simp [ho, Op.operands, Call.operands])
  rw [hs] at hvs
  obtain ⟨new, h1, h2, h3⟩ := src_ok (P := P) hk hx (.inl hkk) S hvx
  obtain ⟨d2, hd2⟩ := Option.isSome_iff_exists.1 ht2
  obtain ⟨v, w', hrun, b, c2, hcp, hfr, S', hv'⟩ := run_appendM (src := dRows src) o.type hsl ⟨d2, hd2, fun kk e => by unfold intI at hti; rw [hd2, e] at hti; cases hti⟩ hc0 S hfull hvs h1.a (by rw [dRows_len]; exact h2) (by rw [dRows_len]; exact h3) (by rw [dRows_len]; unfold maxLen; omega) (by rw [dRows_len]; exact hby) (by rw [dRows_len]; exact hm)
  have hrun' : (execOp a.eval o).run P w = .ok (.value v) w' := by
    unfold execOp
    simp only [ho, resolve, invoke, builtin, Sem.run_bind, Sem.run_pure, Result.andThen_ok, List.map_toArray, List.map_cons, List.map_nil, hrun]
  unfold Oper.wp
  rw [hrun']
  exact hK _ _ G v w' (lvc_ok rest _ _ (kk b c2 hcp hfr)) (Gle.refl G) S' (by simpa [dRows_len] using hv')
theorem DW.appMM {s x : Operand} {t t2 e k by_ b0 c0 : Nat} {rows : List (List AV)} {F : List (Nat × Ob)} {L : List Nat} {b1 k1 n1 c1 : Nat} {ob1 : Ob} (ho : o.op = .call { callee := .builtin .append, args := #[s, x], argTypes := #[t, t2] }) (hg : o.guard = none) (hs : ev T sl s = mA b0 k c0 rows.length) (hh : h = ⟨mO b0 k c0 rows F, L⟩) (hc0 : c0 = 0 → rows = []) (hx : ev T sl x = .arr b1 k1 n1 c1) (hg1 : getO b1 F = some ob1) (hn1 : n1 = ob1.rows.length) (hk1 : ob1.k = k1) (hfull1 : ∀ r ∈ ob1.rows, r.length = k)
    (hsl : slI P t = some (e, k, by_)) (ht2 : (P.underlying t2).isSome = true) (hti : intI P t2 = none) (hfull : ∀ r ∈ rows, r.length = k) (hkk : k1 = k) (hm : 0 < ob1.rows.length) (h63 : rows.length + ob1.rows.length ≤ 9223372036854775807) (hby : (rows.length + ob1.rows.length) * by_ ≤ 140737488355328)
    (kk : ∀ b c, 0 < c → freshL b F → lvc P T cp ops rest (putA o.dst (.arr b k (rows.length + ob1.rows.length) c) sl) ⟨(b, ⟨k, c, rows ++ ob1.rows⟩) :: F, L⟩ K X) : DW P T cp ops (o :: rest) sl h K X := by
  subst hh
  unfold DW
  rw [if_pos (effK_append ho hg)]
  refine ⟨hg, fun G w a S hv Kc Q hK _ => ?_⟩
  obtain ⟨_, _, _, _, _, _, hk⟩ := slI_inv hsl
  have hvs := hv s (by simp [ho, Op.operands, Call.operands])
  have hvx := hv x (by simp [ho, Op.operands, Call.operands])
  rw [hs] at hvs
  subst hkk
  rw [hx] at hvx
  have hmem : (b1, ob1) ∈ mO b0 k1 c0 rows F := by
    unfold mO
    split
    · exact getO_mem hg1
    · exact List.mem_cons_of_mem _ (getO_mem hg1)
  obtain ⟨new, h1, h2, h3⟩ := obj_src (P := P) S hmem hk1 hn1 hfull1 hk hvx
  obtain ⟨d2, hd2⟩ := Option.isSome_iff_exists.1 ht2
  obtain ⟨v, w', hrun, b, c2, hcp, hfr, S', hv'⟩ := run_appendM (src := ob1.rows) o.type hsl ⟨d2, hd2, fun kk e => by unfold intI at hti; rw [hd2, e] at hti; cases hti⟩ hc0 S hfull hvs h1 h2 h3 (by unfold maxLen; omega) hby hm
  have hrun' : (execOp a.eval o).run P w = .ok (.value v) w' := by
    unfold execOp
    simp only [ho, resolve, invoke, builtin, Sem.run_bind, Sem.run_pure, Result.andThen_ok, List.map_toArray, List.map_cons, List.map_nil, hrun]
  unfold Oper.wp
  rw [hrun']
  exact hK _ _ G v w' (lvc_ok rest _ _ (kk b c2 hcp hfr)) (Gle.refl G) S' hv'
/-- a slice literal as an object -/
theorem DW.bsM {t len k e by_ : Nat} {ps : Array (Nat × Operand)} {rows : List (List AV)} (ho : o.op = .buildSlice t len ps) (hg : o.guard = none) (hsl : slI P t = some (e, k, by_)) (hr : rowsM k 0 (ps.toList.map fun p => (p.1, ev T sl p.2)) = some rows) (hl : ps.size = len) (hb : len * k ≤ 16777216)
    (hl0 : 0 < rows.length) (kk : ∀ b, freshL b h.objs → lvc P T false ops rest (putA o.dst (.arr b k rows.length rows.length) sl) ⟨(b, ⟨k, rows.length, rows⟩) :: h.objs, h.live⟩ K X) (he : effK false o = true := by rfl) : DW P T false ops (o :: rest) sl h K X := by
  subst hl
  unfold DW
  rw [if_pos he]
  refine ⟨hg, fun G w a S hv Kc Q hK _ => ?_⟩
  obtain ⟨i, hu, hi, hsz, _, hz, hk⟩ := slI_inv hsl
  obtain ⟨z, hz1, hz2⟩ := Option.map_eq_some_iff.1 hz
  obtain ⟨ps⟩ := ps
  have hp := parts_ok (G := G) (ρ := ev T sl) (e := a.eval) (l := ps) (fun x hx => hv x (by simpa [ho, Op.operands] using hx))
  obtain ⟨vs', h1, h2, _, h4, h5, h6⟩ := rowsM_fill (G := G) (ps.map fun p => (p.1, ev T sl p.2)) (ps.map fun p => (p.1, a.eval p.2)) 0 ((Array.range (ps.length * k)).map (z.cells[· % z.cells.size]!)) rows (by simp) (by simp) hp hr
  have hsz' : vs'.size = ps.length * k := by rw [h2]; simp
  simp only [List.size_toArray] at hb
  have hml : ps.length ≤ maxLen := by
    rcases Nat.eq_zero_or_pos ps.length with h0 | h0
    · rw [h0]; decide
    · have : ps.length * 1 ≤ ps.length * k := Nat.mul_le_mul_left _ hk
      unfold maxLen
      omega
  have hrl : rows.length = ps.length := by simpa using h4
  have S' := S.alloc ⟨k, rows.length, rows⟩ vs' e (0, 0) h5 (Nat.le_refl _) (by dsimp only; omega) (by dsimp only; rw [hrl]; exact hsz') (fun o _ => by simp) (fun i r j a e1 e2 => by simpa using h6 i r j a e1 e2)
  have hrun : (execOp a.eval o).run P w = .ok (.value (.slice (some ⟨w.heap.size, 0, none⟩) ps.length ps.length)) (w.alloc (.cells vs' e)) := by
    unfold execOp
    simp only [ho]
    simp only [Instr.buildSlice, Sem.run_bind, run_underlying hu, Result.andThen_ok, run_sizeOf hi, hsz, List.size_toArray]
    rw [if_neg (by omega)]
    rcases Nat.eq_zero_or_pos ps.length with h0 | h0
    · have hps : ps = [] := List.eq_nil_of_length_eq_zero h0
      subst hps
      have hv0 : vs' = #[] := Array.eq_empty_of_size_eq_zero (by rw [h2]; simp)
      subst hv0
      simp [Instr.fill, newRow, newObj, Sem.run, zeroValue, typeInfo, hi, hz1, program]
      congr 2
      exact Array.eq_empty_of_size_eq_zero (by simp)
    · have hne : ps.length * k ≠ 0 := Nat.mul_ne_zero (by omega) (by omega)
      rw [if_neg hne]
      simp only [zeroValue, typeInfo, Sem.run_bind, bind_assoc, pure_bind]
      simp [program, Sem.run, hi, hz1]
      have h1' : Instr.fill (fun i => some (i * k, k)) (Array.map (fun x => z.cells[x % z.cells.size]!) (Array.range (ps.length * k))) (ps.map fun p => (p.1, a.eval p.2)) = some vs' := h1
      rw [h1']
      simp [newRow, newObj, Sem.run]
  unfold Oper.wp
  rw [hrun]
  have hval : VR G (.arr w.heap.size k rows.length rows.length) (.slice (some ⟨w.heap.size, 0, none⟩) ps.length ps.length) := by rw [hrl]; exact .arr ..
  exact hK _ _ G _ _ (lvc_ok _ _ _ (kk w.heap.size (fresh_new S.fresh))) (Gle.refl G) S' hval
/-- rows that will not be written any more -/
theorem Sim.ownM (P : Program) {b k c : Nat} {rows : List (List D)} {F : List (Nat × Ob)} {L : List Nat} (S : Sim T G ⟨(b, ⟨k, c, dRows rows⟩) :: F, L⟩ w) (hk : 0 < k) (hfull : ∀ r ∈ rows, r.length = k) :
    ∃ G' : Gh, Gle G G' ∧ Sim T G' ⟨F, G.nt :: L⟩ w ∧ VR G' (.own G.nt k rows) (.slice (some ⟨b, 0, none⟩) rows.length c) ∧ freshT G.nt L := by
  have hO := S.obj _ (List.mem_cons_self ..)
  obtain ⟨vs, ety, fz, hheap, hvs, hfz, hm⟩ := hO.mem
  have hcm := hO.cmax
  have hrest := hO.rest
  have hfree := hO.free
  have hlow := hO.low
  have h1 := hO.fits
  dsimp only at hvs hm hcm hrest hlow hheap h1 hfree
  have hlenr : (dRows rows).length = rows.length := by simp [dRows]
  rw [hlenr] at hrest h1
  have hsz : rows.length * k ≤ vs.size := by rw [hvs]; exact Nat.mul_le_mul_right _ h1
  have hget : ∀ (i : Nat) (r : List D), rows[i]? = some r → (dRows rows)[i]? = some (r.map .d) := fun i r h => by unfold dRows; rw [List.getElem?_map, h]; rfl
  have hno : ∀ o, G.frz b o = none := fun o => by
    rcases Nat.lt_or_ge o (rows.length * k) with ho | ho
    · have hi : o / k < rows.length := Nat.div_lt_of_lt_mul (by rw [Nat.mul_comm]; exact ho)
      have := hfree (o / k) _ (o % k) (hget _ _ (List.getElem?_eq_getElem hi)) (by rw [List.length_map, hfull _ (List.getElem_mem hi)]; exact Nat.mod_lt _ hk)
      rwa [← cells_div hk] at this
    · exact hrest o ho
  have hbF : b ∉ F.map Prod.fst := (List.nodup_cons.1 S.nd).1
  have hbt : ∀ t ∈ L, tokBlk G t ≠ some b := fun t ht e => S.todis t ht b e (List.mem_cons_self ..)
  have hnt : ∀ t ∈ L, t ≠ G.nt := fun t ht e => by
    obtain ⟨_, _, _, _, e2, _⟩ := (S.liv _ ht).mem
    rw [S.fin t (by omega)] at e2
    cases e2
  let F' : Frz := fun b' o => if b' = b then (if o < rows.length * k then vs[o]? else none) else G.frz b' o
  let G' : Gh := { base := G.base, frz := F', tok := fun t => if t = G.nt then some (k, .slice (some ⟨b, 0, none⟩) rows.length c) else G.tok t, nt := G.nt + 1 }
  have hF : ∀ b' o u, G.frz b' o = some u → F' b' o = some u := fun b' o u e => by
    show (if b' = b then _ else _) = _
    by_cases hbb : b' = b
    · subst hbb; rw [hno] at e; cases e
    · rw [if_neg hbb]; exact e
  have hG : Gle G G' := ⟨rfl, hF, fun b' o u e => by
    have e' : (if b' = b then (if o < rows.length * k then vs[o]? else none) else G.frz b' o) = some u := e
    by_cases hbb : b' = b
    · exact .inr (by rw [hbb]; exact hlow)
    · rw [if_neg hbb] at e'; exact .inl e', fun t x e => by
    show (if t = G.nt then _ else _) = _
    rw [if_neg (fun e' => by rw [S.fin t (by omega)] at e; cases e)]
    exact e⟩
  have hne_b : ∀ b', b' ≠ b → ∀ o, G.frz b' o = none → F' b' o = none := fun b' hb' o e => by
    show (if b' = b then _ else _) = _
    rw [if_neg hb']; exact e
  have hcell : ∀ (i : Nat) (r : List D) (j : Nat) (x : D), rows[i]? = some r → r[j]? = some x → ∃ v, vs[i * k + j]? = some v ∧ VD F' x v := fun i r j x h2 h3 => by
    obtain ⟨_, v, h4, h5⟩ := hm i _ j (.d x) (hget i r h2) (by rw [List.getElem?_map, h3]; rfl)
    cases h5 with
    | d h5 => exact ⟨v, h4, h5.mono hF⟩
  have htk : ∀ o, o < rows.length * k → (vs.toList.take (rows.length * k))[o]? = vs[o]? := fun o ho => by rw [List.getElem?_take_of_lt ho, Array.getElem?_toList]
  have hCR : CellRows F' k rows (vs.toList.take (rows.length * k)) := by
    refine ⟨by simp; exact Nat.min_eq_left hsz, hfull, fun v hv => ?_, fun i r j x h2 h3 => ?_⟩
    · obtain ⟨q, hq, rfl⟩ := List.getElem_of_mem hv
      have hq' : q < rows.length * k := by simp at hq; omega
      have hi : q / k < rows.length := Nat.div_lt_of_lt_mul (by rw [Nat.mul_comm]; exact hq')
      have hj : q % k < rows[q / k].length := by rw [hfull _ (List.getElem_mem hi)]; exact Nat.mod_lt _ hk
      obtain ⟨v, h4, h5⟩ := hcell (q / k) _ (q % k) _ (List.getElem?_eq_getElem hi) (List.getElem?_eq_getElem hj)
      rw [← cells_div hk] at h4
      have := htk q hq'
      rw [List.getElem?_eq_getElem hq, h4] at this
      injection this with this
      rw [this]; exact h5.one
    · obtain ⟨v, h4, h5⟩ := hcell i r j x h2 h3
      have hi : i < rows.length := (List.getElem?_eq_some_iff.1 h2).1
      have hj : j < k := by rw [← hfull r (List.mem_of_getElem? h2)]; exact (List.getElem?_eq_some_iff.1 h3).1
      have hlt : i * k + j < rows.length * k := by
        calc i * k + j < i * k + k := by omega
          _ = (i + 1) * k := by rw [Nat.succ_mul]
          _ ≤ rows.length * k := Nat.mul_le_mul_right _ (by omega)
      exact ⟨v, by rw [htk _ hlt]; exact h4, h5⟩
  have hVD : VD F' (.slc k rows) (.slice (some ⟨b, 0, none⟩) rows.length c) := VD.of_cells hCR (fun o u hu => by
    have hlt : o < rows.length * k := by
      have := (List.getElem?_eq_some_iff.1 hu).1
      simp at this; omega
    show (if b = b then (if o < _ then vs[o]? else none) else _) = _
    rw [if_pos rfl, if_pos hlt, ← htk o hlt]
    exact hu) h1 hcm
  have hblk : ∀ t ∈ L, tokBlk G' t = tokBlk G t := fun t ht => tokBlk_mono hG (S.liv t ht)
  have hnewblk : ∀ g, tokBlk G' G.nt = some g → g = b := fun g hg => by
    unfold tokBlk at hg
    have e1 : G'.tok G.nt = some (k, Value.slice (some ⟨b, 0, none⟩) rows.length c) := by show (if G.nt = G.nt then _ else _) = _; rw [if_pos rfl]
    rw [e1] at hg
    dsimp only at hg
    split at hg
    · injection hg with hg; exact hg.symm
    · cases hg
  have htok : G'.tok G.nt = some (k, .slice (some ⟨b, 0, none⟩) rows.length c) := by show (if G.nt = G.nt then _ else _) = _; rw [if_pos rfl]
  refine ⟨G', hG, ?_, .own hVD htok, fresh_tok hnt⟩
  refine ⟨S.below, fun g j x hx => ?_, fun b' o u e => ?_, fun t ht => ?_, fun p hp => ?_, (List.nodup_cons.1 S.nd).2, fun t ht => ?_, ?_, fun t ht g hg => ?_, List.nodup_cons.2 ⟨fun hm => hnt _ hm rfl, S.lnd⟩⟩
  · obtain ⟨u, h2, h3⟩ := S.glob g j x hx
    exact ⟨u, hF _ _ _ h2, h3.mono hF⟩
  · have e' : (if b' = b then (if o < rows.length * k then vs[o]? else none) else G.frz b' o) = some u := e
    by_cases hbb : b' = b
    · subst hbb
      rw [if_pos rfl] at e'
      split at e'
      · rw [cell_of_row _ _ _ vs ety fz hheap]; exact e'
      · cases e'
    · rw [if_neg hbb] at e'
      exact S.frz b' o u e'
  · show (if t = G.nt then _ else _) = _
    have ht' : G.nt + 1 ≤ t := ht
    rw [if_neg (by omega)]
    exact S.fin t (by omega)
  · have hO := S.obj p (List.mem_cons_of_mem _ hp)
    have hpb : p.1 ≠ b := fun e => hbF (by rw [← e]; exact List.mem_map_of_mem hp)
    exact hO.mono hG (fun o ho => hne_b _ hpb o ho)
  · rcases List.mem_cons.1 ht with rfl | ht
    · exact ⟨k, rows.length, c, some ⟨b, 0, none⟩, htok, h1, hcm, hk, (fun e => by cases e), fun a ha _ => by
        injection ha with ha
        exact ⟨b, vs, ety, fz, ha.symm, hlow, hheap, hvs, hfz, fun o ho => by
          show (if b = b then (if o < _ then _ else none) else _) = none
          rw [if_pos rfl, if_neg (by omega)]⟩⟩
    · exact (S.liv t ht).mono hG (fun g hg o ho => hne_b g (fun e => hbt t ht (by rw [← e]; exact hg)) o ho)
  · refine List.pairwise_cons.2 ⟨fun t ht g h2 h3 => ?_, S.tdis.imp_of_mem fun {a b'} ha hb' hd g h2 h3 => hd g (by rw [← hblk a ha]; exact h2) (by rw [← hblk b' hb']; exact h3)⟩
    have h2 := hnewblk _ h2
    subst h2
    rw [hblk t ht] at h3
    exact hbt t ht h3
  · rcases List.mem_cons.1 ht with rfl | ht
    · have hg := hnewblk _ hg
      subst hg
      exact hbF
    · rw [hblk t ht] at hg
      exact fun hm => S.todis t ht g hg (List.mem_cons_of_mem _ hm)
theorem VR.ownM {G' : Gh} {b k c t : Nat} {rows : List (List D)} (h : VR G' (.own t k rows) (.slice (some ⟨b, 0, none⟩) rows.length c)) : ∀ v, VR G' (.arr b k rows.length c) v → VR G' (.own t k rows) v := fun v hv => by
  cases hv
  exact h
/-- the slice lies in a cell -/
theorem AWp.ownMH {code : Code} {b b' i j k n c : Nat} {rows : List (List D)} {F : List (Nat × Ob)} {L : List Nat} {ob : Ob} {r : List AV} (hg : getO b' F = some ob) (hr : ob.rows[i]? = some r) (hj : r[j]? = some (.arr b k n c)) (hn : n = rows.length) (hk : 0 < k) (hfull : ∀ r ∈ rows, r.length = k)
    (H : ∀ t, freshT t L → AWp P T code Q sl ⟨setO b' ⟨ob.k, ob.c, ob.rows.set i (r.set j (.own t k rows))⟩ F, t :: L⟩) : AWp P T code Q sl ⟨(b, ⟨k, c, dRows rows⟩) :: F, L⟩ := by
  intro G w a S R
  subst hn
  obtain ⟨_, _, _, _, _, _, g4⟩ := (S.obj _ (List.mem_cons_of_mem _ (getO_mem hg))).mem
  obtain ⟨_, v, _, hv⟩ := g4 i r j _ hr hj
  obtain ⟨G', hG, S', hown, hfr⟩ := S.ownM P hk hfull
  have S2 := S'.recell hg hr hj (a' := .own G.nt k rows) rfl (VR.ownM hown)
  exact wp_mono (H G.nt hfr G' w a S2 (R.mono hG)) fun e a' w' hh => hh.mono hG (fun _ _ _ q => q)
end
end Go.Proofs.YthhfbolhlbgbgaaDoor

namespace Go.Proofs.YthhfbolhlbgbgaaDoor
open Go.RowKit
set_option linter.unusedSimpArgs false
set_option linter.unusedVariables false
section
variable {P : Program} {T : Tbl} {c : Code} {Q : AQ} {h : AH}
theorem AWp.nd {sl : List AV} (H : (h.objs.map Prod.fst).Nodup → AWp P T c Q sl h) : AWp P T c Q sl h := fun G w a S R => H S.nd G w a S R
end
end Go.Proofs.YthhfbolhlbgbgaaDoor

namespace Go.Proofs.YthhfbolhlbgbgaaDoor
open Go.RowKit
set_option linter.unusedSimpArgs false
set_option linter.unusedVariables false
section
variable {P : Program} {T : Tbl} {Q : AQ}
theorem AWp.iceP {code : Code} {N : Nat} {l : SL} {df : AV} (i : Nat) {b k c : Nat} (rows : List (List D)) {F : List (Nat × Ob)} {L : List Nat} (hi : lookS df i l = .ptr b k 0 0) (hN : Nat.blt i N = true) (h0 : 0 < rows.length) (hk : 0 < k) (hfull : ∀ r ∈ rows, r.length = k)
    (H : AWp P T code Q (mkS df (insS i (.elt k rows 0 0) l) N 0) ⟨F, L⟩) : AWp P T code Q (mkS df l N 0) ⟨(b, ⟨k, c, dRows rows⟩) :: F, L⟩ := by
  intro G w a S R
  have hsl : (mkS df l N 0)[i]? = some (.ptr b k 0 0) := by rw [mkS_get _ _ _ _ _ (by simpa [Nat.blt_eq] using hN), Nat.zero_add, hi]
  obtain ⟨v, hv0, hv⟩ := R.2 i _ hsl
  obtain ⟨G', hG, S', hown, hfr⟩ := S.ownM P hk hfull
  have helt : VR G' (.elt k rows 0 0) v := by
    cases hv
    cases hown with
    | own hd _ =>
      obtain ⟨A, c', e, _, _, _, _, hx⟩ := hd.slc_inv
      obtain ⟨b', off, val, hA, hx⟩ := hx h0
      injection e with e1 e2 e3
      rw [hA] at e1
      injection e1 with e1
      injection e1 with e1 e4
      subst e1 e4
      have := VR.elt (G := G') k rows 0 0 b 0 (fun j => val 0 j) rows[0] (List.getElem?_eq_getElem h0) (fun j x hj => by
        have := (hx 0 rows[0] j x (List.getElem?_eq_getElem h0) hj).1
        simpa using this) (fun j x hj => (hx 0 rows[0] j x (List.getElem?_eq_getElem h0) hj).2)
      simpa using this
  have R' : SlR G' (mkS df (insS i (.elt k rows 0 0) l) N 0) a.tmps := by
    rw [← mkS_set]
    refine ⟨by rw [List.length_set]; exact R.1, fun j x hx => ?_⟩
    by_cases hij : i = j
    · subst hij
      rw [List.getElem?_set_self (List.getElem?_eq_some_iff.1 hsl).1] at hx
      injection hx with hx
      subst hx
      exact ⟨_, hv0, helt⟩
    · rw [List.getElem?_set_ne hij] at hx
      exact (R.mono hG).2 j x hx
  have S2 := S'.drop (h' := ⟨F, L⟩) (List.Sublist.refl _) (List.sublist_cons_self ..)
  exact wp_mono (H G' w a S2 R') fun e a' w' hh => hh.mono hG (fun _ _ _ q => q)
end
end Go.Proofs.YthhfbolhlbgbgaaDoor

namespace Go.Proofs.YthhfbolhlbgbgaaDoor
open Go.RowKit
set_option linter.unusedSimpArgs false
set_option linter.unusedVariables false
theorem getO_setO_self {b : Nat} {ob ob2 : Ob} : ∀ {l : List (Nat × Ob)}, getO b l = some ob → getO b (setO b ob2 l) = some ob2
  | p :: r, e => by
    unfold getO at e
    split at e
    · rename_i h; simp [setO, h, getO]
    · rename_i h; simp only [setO, h, if_false, getO, Bool.false_eq_true]; exact getO_setO_self e
theorem setO_setO {b : Nat} {ob ob2 : Ob} : ∀ (l : List (Nat × Ob)), setO b ob (setO b ob2 l) = setO b ob l
  | [] => rfl
  | p :: r => by
    by_cases h : (p.1 == b) = true
    · simp [setO, h]
    · simp only [setO, h, if_false, Bool.false_eq_true]; rw [setO_setO r]
@[go_sem] theorem mA_one (b k c n : Nat) : (mA b k c n).one = true := by unfold mA; split <;> rfl
@[go_sem] theorem mA_plain (b k c n : Nat) : (mA b k c n).plain = true := by unfold mA; split <;> rfl
@[go_sem] theorem mA_cells (b k c n : Nat) : (mA b k c n).cells = [mA b k c n] := by unfold mA; split <;> rfl
@[go_sem] theorem mA_strip (b k c n : Nat) : (mA b k c n).strip = mA b k c n := by unfold mA; split <;> rfl
@[go_sem] theorem mA_okc (b k c n : Nat) : (mA b k c n).okc = true := by unfold mA; split <;> rfl
/-- a slice is nil, or it is not -/
theorem AC.nnil {P : Program} {T : Tbl} {f : FuncId} {k : Nat} {rows : List (List D)} {h : AH} {R : AR → AH → Prop} (h1 : rows = [] → AC P T f [.nils] h R) (h2 : AC P T f [.nn k rows] h R) : AC P T f [.d (.slc k rows)] h R := by
  refine ⟨h2.call, fun G w vs S Rs => ?_⟩
  obtain ⟨hl, hv⟩ := Rs
  obtain ⟨v, hv0, hv1⟩ := hv 0 _ rfl
  cases hv1 with
  | d hd =>
    obtain ⟨A, c, rfl, hc, hm, hA, _, hx⟩ := hd.slc_inv
    cases A with
    | none =>
      have hc0 := hA rfl
      have hr : rows = [] := List.eq_nil_of_length_eq_zero (by omega)
      subst hr
      subst hc0
      refine (h1 rfl).run G w vs S ⟨hl, fun i a ha => ?_⟩
      match i, ha with
      | 0, ha => simp at ha; subst ha; exact ⟨_, hv0, .nils⟩
      | i + 1, ha => simp at ha
    | some a =>
      refine h2.run G w vs S ⟨hl, fun i x ha => ?_⟩
      match i, ha with
      | 0, ha => simp at ha; subst ha; exact ⟨_, hv0, .nn hd⟩
      | i + 1, ha => simp at ha
section
variable {P : Program} {T : Tbl} {Q : AQ} {sl : List AV}
/-- a slice in a cell, whose rows will not be written any more -/
theorem AWp.iceH {code : Code} {b b' i j k c : Nat} {rows : List (List D)} {F : List (Nat × Ob)} {L : List Nat} {ob : Ob} {r : List AV} (hg : getO b' F = some ob) (hr : ob.rows[i]? = some r) (hj : r[j]? = some (mA b k c rows.length)) (hc : c = 0 → rows = []) (hk : 0 < k) (hfull : ∀ r ∈ rows, r.length = k)
    (H : AWp P T code Q sl ⟨setO b' ⟨ob.k, ob.c, ob.rows.set i (r.set j (.d (.slc k rows)))⟩ F, L⟩) : AWp P T code Q sl ⟨mO b k c (dRows rows) F, L⟩ := by
  rcases Nat.eq_zero_or_pos c with h0 | h0
  · subst h0
    have hr := hc rfl
    subst hr
    rw [mO_nil]
    rw [mA_nil] at hj
    intro G w a S R
    exact H G w a (S.recell hg hr hj (a' := .d (.slc k [])) rfl fun v hv => by cases hv with | full hd => exact .d hd) R
  · rw [mA_pos h0] at hj
    rw [mO_pos h0]
    refine AWp.ownMH (b' := b') (i := i) (j := j) hg hr hj rfl hk hfull fun t ht => ?_
    intro G w a S R
    have S1 := S.drop (h' := ⟨setO b' ⟨ob.k, ob.c, ob.rows.set i (r.set j (.own t k rows))⟩ F, L⟩) (List.Sublist.refl _) (List.sublist_cons_self ..)
    have hi : i < ob.rows.length := (List.getElem?_eq_some_iff.1 hr).1
    have hjl : j < r.length := (List.getElem?_eq_some_iff.1 hj).1
    have S2 := S1.recell (b := b') (i := i) (j := j) (ob := ⟨ob.k, ob.c, ob.rows.set i (r.set j (.own t k rows))⟩) (r := r.set j (.own t k rows)) (a := .own t k rows) (a' := .d (.slc k rows)) (getO_setO_self hg) (List.getElem?_set_self hi) (List.getElem?_set_self hjl) rfl fun v hv => by cases hv with | own hd _ => exact .d hd
    simp only [List.set_set, setO_setO] at S2
    exact H G w a S2 R
end
end Go.Proofs.YthhfbolhlbgbgaaDoor

namespace Go.Proofs.YthhfbolhlbgbgaaDoor
open Go.RowKit
set_option linter.unusedSimpArgs false
set_option linter.unusedVariables false
section
variable {P : Program} {T : Tbl} {ops : Array Oper} {K : List AV → AH → Prop} {X : AV → AH → Prop} {o : Oper} {rest : List Oper} {sl : List AV} {h : AH}
theorem DW.listB {cp : Bool} (post : List Oper) : ∀ (pre : List Oper) (sl : List AV) (h : AH), DW P T cp ops pre sl h (fun s h => LV P T ops post s h K X) X → LV P T ops (pre ++ post) sl h K X
  | [], sl, h, H => H
  | o :: rest, sl, h, H => by
    intro G0 G w a ds hG S R hd
    unfold DW at H
    split at H
    · obtain ⟨hg, H⟩ := H
      refine wpList_plain hg fun K' hK' => H G w a S (fun x _ => ev_ok S R x) K' _ (fun r h' G' u w' hr hG' S' hu => ?_) (fun p h' G' u w' hp hG' S' hu => ?_)
      · exact hK' _ _ (DW.listB post rest _ _ hr G0 G' w' _ ds (hG.trans hG') S' ((R.mono hG').put hu o.dst) (by rw [put_defers]; exact hd))
      · exact ⟨hd, .pan p, sl, h', G', hp, ⟨u, rfl, hu⟩, hG.trans hG', S', R.mono hG'⟩
    · obtain ⟨v, hy, _, hr⟩ := H
      refine wpList_step fun K' hK' => hy.run S R fun G' u w' hG' S' hu => ?_
      exact hK' _ _ (DW.listB post rest _ _ hr G0 G' w' _ ds (hG.trans hG') S' ((R.mono hG').put hu o.dst) (by rw [put_defers]; exact hd))
/-- a call whose guard is false -/
theorem DW.skipc {cp : Bool} {g : Nat × Bool} (hg : o.guard = some g) (ht : gdA ops sl g.1 g.2 = some false) (k : Go.Proofs.YthhfbolhlbgbgaaDoor.lvc P T cp ops rest (putA o.dst (.cnd false .undef) sl) h K X) : DW P T cp ops (o :: rest) sl h K X := by
  unfold DW
  rw [if_neg (by unfold effK; rw [hg]; simp)]
  exact ⟨.cnd false .undef, by unfold Yg; rw [hg]; exact ⟨false, .undef, ht, rfl, fun e => by cases e⟩, fun _ h' => by unfold Yg; rw [hg]; exact ⟨false, .undef, ht, rfl, fun e => by cases e⟩, lvc_ok rest _ _ k⟩
theorem LV.lvc {l : List Oper} (H : lvc P T false ops l sl h K X) : LV P T ops l sl h K X := DW.list l sl h (lvc_ok l sl h H)
theorem LV.leH {l : List Oper} {h' : AH} (p : LeH h h') (H : LV P T ops l sl h' K X) : LV P T ops l sl h K X := fun G0 G w a ds hG S R hd => H G0 G w a ds hG (p _ _ _ S) R hd
theorem LV.gcall {c : Call} {fo : Operand} {f : FuncId} {cap args : List AV} {g : Nat × Bool} {h0 : AH} {R : AR → AH → Prop} (ho : o.op = .call c) (hg : o.guard = some g) (ht : gdA ops sl g.1 g.2 = some true) (hc : c.callee = .value fo) (hf : evs T sl fo = .fn f cap)
    (hok : okL T sl (fo :: c.args.toList) = true) (p : LeH h h0) (ha : c.args.toList.map (evs T sl) ++ cap = args) (C : AC P T f args h0 R)
    (k : ∀ x h', R x h' → match x with
      | .ret r => LV P T ops rest (putA o.dst (.cnd true r) sl) h' K X
      | .pan p => X p h') : LV P T ops (o :: rest) sl h K X := by
  intro G0 G w a ds hG S R hd
  refine wpList_step fun K' hK' => ?_
  rw [gdA_ok R ht hg, if_pos rfl]
  obtain ⟨vs, hrun, hvs⟩ := run_call (ρ := evs T sl) ho hc hf (a := a) (fun x hx => (ev_ok S R x).strip (okL_mem hok (by
    rw [ho] at hx
    simpa [Op.operands, Call.operands, hc] using hx))) C.call
  rw [ha] at hvs
  unfold Oper.wp
  rw [hrun]
  refine (C.run G w vs (p _ _ _ S) hvs).mono ?_
  rintro e w' ⟨x, h', G', hR, hG', S', hx⟩
  have hk := k x h' hR
  cases x with
  | ret r =>
    obtain ⟨v, rfl, hv⟩ := hx
    exact hK' _ _ (hk G0 G' w' _ ds (hG.trans hG') S' ((R.mono hG').put (.cndT hv) o.dst) (by rw [put_defers]; exact hd))
  | pan q =>
    obtain ⟨v, rfl, hv⟩ := hx
    exact ⟨hd, .pan q, sl, h', G', hk, ⟨v, rfl, hv⟩, hG.trans hG', S', R.mono hG'⟩
/-- a region whose second part is walked by the machine's own steps -/
theorem AWp.regG {id : Nat} {l : List Oper} {Q : AQ} (i : Nat) (H : Go.Proofs.YthhfbolhlbgbgaaDoor.lvc P T false l.toArray (l.take i) sl h (fun s h => LV P T l.toArray (l.drop i) s h (fun s h => Q .normal s h) (fun p h => ∀ s, Q (.pan p) s h)) (fun p h => ∀ s, Q (.pan p) s h)) : AWp P T (.region id l.toArray false) Q sl h :=
  AWp.of_lift fun G w a S R => by
    have h1 := DW.listB (P := P) (T := T) (ops := l.toArray) (K := fun s h => Q .normal s h) (X := fun p h => ∀ s, Q (.pan p) s h) (l.drop i) (l.take i) sl h (lvc_ok _ sl h H)
    rw [List.take_append_drop] at h1
    exact wp_region_lit (h1 G G w a a.defers (Gle.refl G) S R rfl)
theorem AWp.rsG {id : Nat} {l : List Oper} {y : Code} {Q : AQ} (i : Nat) (H : ∀ K : List AV → AH → Prop, (∀ s h, AWp P T y Q s h → K s h) → Go.Proofs.YthhfbolhlbgbgaaDoor.lvc P T false l.toArray (l.take i) sl h (fun s h => LV P T l.toArray (l.drop i) s h K (fun p h => ∀ s, Q (.pan p) s h)) (fun p h => ∀ s, Q (.pan p) s h)) : AWp P T (.seq (.region id l.toArray false) y) Q sl h :=
  AWp.seq fun K hK => AWp.regG i (H K hK)
end
end Go.Proofs.YthhfbolhlbgbgaaDoor

namespace Go.Proofs.YthhfbolhlbgbgaaDoor
open Go.RowKit
set_option linter.unusedSimpArgs false
set_option linter.unusedVariables false
section
variable {P : Program} {T : Tbl} {ops : Array Oper} {K : List AV → AH → Prop} {X : AV → AH → Prop} {o o2 : Oper} {rest : List Oper} {sl : List AV} {h : AH}
theorem AWp.fit {code : Code} {Q : AQ} {b : Nat} {ob : Ob} (hg : getO b h.objs = some ob) (H : ob.rows.length ≤ ob.c → AWp P T code Q sl h) : AWp P T code Q sl h := fun G w a S R => H (S.obj _ (getO_mem hg)).fits G w a S R
theorem LV.slcA {t e by_ b k n c i : Nat} {x y : Operand} (ho : o.op = .slice t x none (some y) none) (hg : o.guard = none) (hx : ev T sl x = .arr b k n c) (hy : ev T sl y = .d (.int .i64 (i : Nat))) (hsl : slI P t = some (e, k, by_)) (hnc : n ≤ c) (hi : i ≤ n)
    (kk : LV P T ops rest (putA o.dst (.arr b k i c) sl) h K X) : LV P T ops (o :: rest) sl h K X := by
  intro G0 G w a ds hG S R hd
  refine wpList_plain hg fun K' hK' => ?_
  obtain ⟨j, hu, hj, hsz, _⟩ := slI_inv hsl
  have hvx := ev_ok S R x
  have hvy := ev_ok S R y
  rw [hx] at hvx
  rw [hy] at hvy
  generalize hzx : a.eval x = vx at hvx
  generalize hzy : a.eval y = vy at hvy
  cases hvx
  cases hvy with
  | d hvy =>
    obtain rfl := hvy.int_inv
    have hb := run_bounds (P := P) (w := w) (isS := true) (n := n) (c := c) (lo := none) (hi := some (i : Int)) (mx := none) (l := none) (h := some (.int .i64 (i : Int))) (m := none) rfl ⟨_, rfl⟩ rfl 0 i c rfl (by simp) (by simp) (Nat.zero_le _) (by omega) (Nat.le_refl _) (by simp)
    have hrun : (execOp a.eval o).run P w = .ok (.value (.slice (some ⟨b, 0, none⟩) i c)) w := by
      unfold execOp
      simp only [ho]
      simp [Instr.sliceAt, Instr.slice, run_underlying hu, hb, run_sizeOf hj, hsz, hzx, hzy, Addr.add]
    unfold Oper.wp
    rw [hrun]
    exact hK' _ _ (kk G0 G w _ ds hG S (R.put (.arr b k i c) o.dst) (by rw [put_defers]; exact hd))
theorem ObR.cut {G : Gh} {w w' : World} {b k c i : Nat} {rows : List (List AV)} {zs : List Value} (hO : ObR G w b ⟨k, c, rows⟩) (hfull : ∀ r ∈ rows, r.length = k) (hi : i ≤ rows.length) (hw : w' = w.setCells b (i * k) zs) : ObR G w' b ⟨k, c, rows.take i⟩ := by
  subst hw
  obtain ⟨vs, e, fz, hh, hvs, hfz, hm⟩ := hO.mem
  obtain ⟨vs', h2, h3, h4⟩ := setCells_heap b zs (i * k) w vs e fz hh
  have hno : ∀ o, G.frz b o = none := fun o => by
    rcases Nat.lt_or_ge o (rows.length * k) with ho | ho
    · have hk : 0 < k := by rcases Nat.eq_zero_or_pos k with h | h; · rw [h] at ho; simp at ho
                            · exact h
      have h1 : o / k < rows.length := Nat.div_lt_of_lt_mul (by rw [Nat.mul_comm]; exact ho)
      have h5 := hO.free (o / k) rows[o / k] (o % k) (List.getElem?_eq_getElem h1) (by rw [hfull _ (List.getElem_mem h1)]; exact Nat.mod_lt _ hk)
      rwa [Nat.div_add_mod' o k] at h5
    · exact hO.rest o ho
  refine ⟨hO.low, fun _ _ _ _ _ => hno _, fun o _ => hno o, fun r hr => .inl (hfull r (List.mem_of_mem_take hr)), by have := hO.fits; simp only [List.length_take]; simp only at this; omega, hO.cmax, vs', e, fz, h2, by rw [h3]; exact hvs, fun o ho => hfz o (by omega), fun n r j a hr ha => ?_⟩
  have hn : n < i := by
    have := (List.getElem?_eq_some_iff.1 hr).1
    simp only [List.length_take] at this; omega
  have hr' : rows[n]? = some r := by rw [← hr]; exact (List.getElem?_take_of_lt hn).symm
  obtain ⟨h5, v, h6, h7⟩ := hm n r j a hr' ha
  refine ⟨h5, v, ?_, h7⟩
  have hjk : j < k := by rw [← hfull r (List.mem_of_getElem? hr')]; exact (List.getElem?_eq_some_iff.1 ha).1
  have hlt : n * k + j < i * k := by
    have : (n + 1) * k ≤ i * k := Nat.mul_le_mul_right k hn
    rw [Nat.add_mul, Nat.one_mul] at this; omega
  have h6 : vs[n * k + j]? = some v := h6
  show vs'[n * k + j]? = some v
  rw [h4 _ (Array.getElem?_eq_some_iff.1 h6).1, if_neg (by omega)]
  exact h6
theorem LV.clr {t e by_ b k n c i d : Nat} {x y : Operand} {rows : List (List AV)} (ho : o.op = .slice t x (some y) none none) (hg : o.guard = none) (hdst : o.dst = some d) (ho2 : o2.op = .call { callee := .builtin .clear, args := #[.tmp d], argTypes := #[t] }) (hg2 : o2.guard = none)
    (hx : ev T sl x = .arr b k n c) (hy : ev T sl y = .d (.int .i64 (i : Nat))) (hsl : slI P t = some (e, k, by_)) (hze : ((P.info? e).bind fun j => j.zero.map fun z => z.cells.all (·.oneCell')) = some true) (hgo : getO b h.objs = some ⟨k, c, rows⟩) (hn : n = rows.length) (hi : i ≤ n) (hfull : ∀ r ∈ rows, r.length = k)
    (hdl : d < sl.length) (kk : LV P T ops rest (putA o2.dst .any (putA o.dst .any sl)) ⟨setO b ⟨k, c, rows.take i⟩ h.objs, h.live⟩ K X) : LV P T ops (o :: o2 :: rest) sl h K X := by
  intro G0 G w a ds hG S R hd
  refine wpList_plain hg fun K' hK' => ?_
  obtain ⟨j, hu, hj, hsz, _, hz, hk0⟩ := slI_inv hsl
  have hvx := ev_ok S R x
  have hvy := ev_ok S R y
  rw [hx] at hvx
  rw [hy] at hvy
  have hO := S.obj _ (getO_mem hgo)
  obtain ⟨vs, ety, fz, hh, hvs, hfz, hm⟩ := hO.mem
  have hnc : n ≤ c := by rw [hn]; exact hO.fits
  generalize hzx : a.eval x = vx at hvx
  generalize hzy : a.eval y = vy at hvy
  cases hvx
  cases hvy with
  | d hvy =>
    obtain rfl := hvy.int_inv
    have hb := run_bounds (P := P) (w := w) (isS := true) (n := n) (c := c) (lo := some (i : Int)) (hi := none) (mx := none) (l := some (.int .i64 (i : Int))) (h := none) (m := none) ⟨_, rfl⟩ rfl rfl i n c rfl (by simp) (by simp) (by omega) hnc (Nat.le_refl _) (by simp)
    have hrun : (execOp a.eval o).run P w = .ok (.value (.slice (if c = i then some ⟨b, 0, none⟩ else some ((⟨b, 0, none⟩ : Addr).add (i * k))) (n - i) (c - i))) w := by
      unfold execOp
      simp only [ho]
      simp [Instr.sliceAt, Instr.slice, run_underlying hu, hb, run_sizeOf hj, hsz, hzx, hzy]
    unfold Oper.wp
    rw [hrun]
    refine hK' _ _ (wpList_plain hg2 fun K2 hK2 => ?_)
    generalize hval : (Value.slice (if c = i then some ⟨b, 0, none⟩ else some ((⟨b, 0, none⟩ : Addr).add (i * k))) (n - i) (c - i)) = val
    have hev : (a.put o.dst val).eval (.tmp d) = val := by
      have : d < a.tmps.size := by rw [R.1]; exact hdl
      simp [Act.put, Act.eval, hdst, this]
    obtain ⟨z, hz0, hz2⟩ := Option.map_eq_some_iff.1 hz
    have hzone : z.cells.all (·.oneCell') = true := by
      rw [hj] at hze
      simp only [Option.bind_some, hz0, Option.map_some, Option.some.injEq] at hze
      exact hze
    have hzv : (zeroValue e).run P w = .ok z w := by simp [zeroValue, typeInfo, hj, hz0]
    have hadd : (⟨b, 0, none⟩ : Addr).add (i * k) = ⟨b, i * k, none⟩ := by unfold Addr.add; split <;> simp_all
    obtain ⟨zs, hrun2⟩ : ∃ zs : List Value, (execOp (a.put o.dst val).eval o2).run P w = .ok (.value (.tuple #[])) (w.setCells b (i * k) zs) := by
      unfold execOp
      simp only [ho2, resolve, invoke, builtin, List.map_toArray, List.map_cons, List.map_nil, hev]
      subst hval
      rcases Nat.eq_zero_or_pos (n - i) with h0 | h0
      · refine ⟨[], ?_⟩
        rw [h0]
        generalize (if c = i then some (⟨b, 0, none⟩ : Addr) else some ((⟨b, 0, none⟩ : Addr).add (i * k))) = A'
        cases A' <;> simp [Builtin.clear_, run_underlying hu, World.setCells]
      · have hci : ¬ c = i := by omega
        obtain ⟨q, hq⟩ : ∃ q, n - i = q + 1 := ⟨n - i - 1, by omega⟩
        have hlen : (Builtin.zeroCells z.cells (n - i)).toList.length = (n - i) * k := by simp [Builtin.zeroCells, hz2]
        refine ⟨(Builtin.zeroCells z.cells (n - i)).toList, ?_⟩
        have hnk : n * k ≤ vs.size := by
          rw [hvs]; exact Nat.mul_le_mul_right k hnc
        have hsum : i * k + (n - i) * k = n * k := by rw [← Nat.add_mul]; congr 1; omega
        have hst := run_storeCells_cells (P := P) b (i * k) (Builtin.zeroCells z.cells (n - i)).toList 0 w (fun j' hj' => by
          rw [cell_of_row _ _ _ vs ety fz hh, Nat.add_zero, Array.getElem?_eq_getElem (by omega)]
          rfl) (fun j' hj' => by
          have := hfz (i * k + j') (by omega)
          simp only [World.frozen?, hh, Nat.add_zero]
          exact this) (fun v hv => by
          simp only [Builtin.zeroCells, Array.toList_map, List.mem_map] at hv
          obtain ⟨q', _, rfl⟩ := hv
          have hlt : q' % z.cells.size < z.cells.size := Nat.mod_lt _ (by omega)
          rw [getElem!_pos z.cells _ hlt]
          have := Array.all_eq_true.1 hzone _ hlt
          exact this)
        rw [if_neg hci, hadd, hq]
        rw [hq] at hst
        simp [Builtin.clear_, run_underlying hu, hzv, hst]
    unfold Oper.wp
    rw [hrun2]
    have hO' := ObR.cut hO hfull (by omega) (rfl : w.setCells b (i * k) zs = _)
    have hno : ∀ o u, G.frz b o = some u → False := fun o' u hu' => by
      have := hO.rest o'
      rcases Nat.lt_or_ge o' (rows.length * k) with ho' | ho'
      · have h1 : o' / k < rows.length := Nat.div_lt_of_lt_mul (by rw [Nat.mul_comm]; exact ho')
        have h5 := hO.free (o' / k) rows[o' / k] (o' % k) (List.getElem?_eq_getElem h1) (by rw [hfull _ (List.getElem_mem h1)]; exact Nat.mod_lt _ hk0)
        rw [Nat.div_add_mod' o' k, hu'] at h5
        cases h5
      · rw [this ho'] at hu'; cases hu'
    have S' := S.write hgo (setCells_wrote b zs (i * k) w) (fun o' u hu' => (hno o' u hu').elim) hO'
    refine hK2 _ _ (kk G0 G _ _ ds hG S' ((R.put (.any _) o.dst).put (.any _) o2.dst) (by rw [put_defers, put_defers]; exact hd))
end
end Go.Proofs.YthhfbolhlbgbgaaDoor

namespace Go.Proofs.YthhfbolhlbgbgaaDoor
open Go.RowKit
set_option linter.unusedSimpArgs false
set_option linter.unusedVariables false
section
variable {P : Program} {T : Tbl} {cp : Bool} {ops : Array Oper} {K : List AV → AH → Prop} {X : AV → AH → Prop} {o : Oper} {rest : List Oper} {sl : List AV} {h : AH}
theorem DW.leHe {h' : AH} (he : effK cp o = true) (p : LeH h h') (H : DW P T cp ops (o :: rest) sl h' K X) : DW P T cp ops (o :: rest) sl h K X := by
  unfold DW at H ⊢
  rw [if_pos he] at H ⊢
  exact ⟨H.1, fun G w a S hv Kc Q hK hX => H.2 G w a (p _ _ _ S) hv Kc Q hK hX⟩
theorem DW.acl {c : Call} {fo : Operand} {f : FuncId} {cap args : List AV} {h0 : AH} {R : AR → AH → Prop} (ho : o.op = .call c) (hg : o.guard = none) (hc : c.callee = .value fo) (hf : ev T sl fo = .fn f cap)
    (p : LeH h h0) (ha : c.args.toList.map (ev T sl) ++ cap = args) (C : AC P T f args h0 R)
    (k : ∀ x h', R x h' → match x with
      | .ret r => Go.Proofs.YthhfbolhlbgbgaaDoor.lvc P T false ops rest (putA o.dst r sl) h' K X
      | .pan p => X p h') : DW P T false ops (o :: rest) sl h K X := by
  refine DW.leHe (by rw [effK_call ho hg hc false]; rfl) p ?_
  unfold DW
  rw [if_pos (by rw [effK_call ho hg hc false]; rfl)]
  refine ESt.ac ho hg hc hf (by rw [ha]; exact C) fun x h' hR => ?_
  have := k x h' hR
  cases x with
  | ret r => exact lvc_ok rest _ _ this
  | pan p => exact this
/-- a nil cell is a slice without room -/
theorem AWp.nilCell {code : Code} {Q : AQ} {b i j k : Nat} {H0 : List (Nat × Ob)} {L : List Nat} {ob : Ob} {r : List AV} (hg : getO b H0 = some ob) (hr : ob.rows[i]? = some r) (hj : r[j]? = some .nils)
    (H : AWp P T code Q sl ⟨setO b ⟨ob.k, ob.c, ob.rows.set i (r.set j (.full k []))⟩ H0, L⟩) : AWp P T code Q sl ⟨H0, L⟩ := by
  intro G w a S R
  exact H G w a (S.recell hg hr hj (a' := .full k []) rfl fun v hv => by cases hv; exact VR.full (rows := []) (A := none) (.slc0 k none 0 (fun _ => rfl) (Nat.zero_le _))) R
end
end Go.Proofs.YthhfbolhlbgbgaaDoor

namespace Go.Proofs.YthhfbolhlbgbgaaDoor
open Go.RowKit
set_option linter.unusedSimpArgs false
set_option linter.unusedVariables false
theorem notInt1 (d2 : TypeDesc) : (∀ kk, d2 ≠ .int kk) → (match d2 with | .int _ => true | _ => false) = false := fun h => by
  cases d2 <;> first | rfl | exact absurd rfl (h _)
theorem notInt0 {P : Program} {t2 : Nat} {d2 : TypeDesc} (hd2 : P.underlying t2 = some d2) (h : intI P t2 = none) : ∀ kk, d2 ≠ .int kk := fun kk e => by
  unfold intI at h
  rw [hd2, e] at h
  cases h
section
variable {P : Program} {T : Tbl} {cp : Bool} {ops : Array Oper} {K : List AV → AH → Prop} {X : AV → AH → Prop} {o : Oper} {rest : List Oper} {sl : List AV} {h : AH}
theorem DW.bs0 {t e k by_ : Nat} (ho : o.op = .buildSlice t 0 #[]) (hg : o.guard = none) (hsl : slI P t = some (e, k, by_)) (kk : lvc P T cp ops rest (putA o.dst (.full k []) sl) h K X) (he : effK cp o = true := by rfl) : DW P T cp ops (o :: rest) sl h K X := by
  unfold DW
  rw [if_pos he]
  refine ⟨hg, fun G w a S hv Kc Q hK _ => ?_⟩
  obtain ⟨i, hu, hi, hsz, _, hz, hk⟩ := slI_inv hsl
  obtain ⟨z, hz1, hz2⟩ := Option.map_eq_some_iff.1 hz
  have hrun : (execOp a.eval o).run P w = .ok (.value (.slice (some ⟨w.heap.size, 0, none⟩) 0 0)) (w.alloc (.cells #[] e)) := by
    unfold execOp
    simp only [ho]
    simp only [Instr.buildSlice, Sem.run_bind, run_underlying hu, Result.andThen_ok, run_sizeOf hi, hsz]
    simp [Instr.fill, newRow, newObj, Sem.run, zeroValue, typeInfo, hi, hz1, program]
    try (congr 2; exact Array.eq_empty_of_size_eq_zero (by simp))
  unfold Oper.wp
  rw [hrun]
  exact hK _ _ G _ _ (lvc_ok _ _ _ kk) (Gle.refl G) (S.alloc0 _) (VR.full (rows := []) (A := some ⟨w.heap.size, 0, none⟩) (.slc0 k _ 0 (fun e => by cases e) (Nat.zero_le _)))
theorem DW.app0 {s x : Operand} {t t2 e k by_ k2 : Nat} (ho : o.op = .call { callee := .builtin .append, args := #[s, x], argTypes := #[t, t2] }) (hg : o.guard = none) (hs : ev T sl s = .full k []) (hx : ev T sl x = .nn k2 []) (hsl : slI P t = some (e, k, by_)) (ht2 : (P.underlying t2).isSome = true) (hti : intI P t2 = none)
    (kk : lvc P T cp ops rest (putA o.dst (.full k []) sl) h K X) : DW P T cp ops (o :: rest) sl h K X := by
  unfold DW
  rw [if_pos (effK_append ho hg)]
  refine ⟨hg, fun G w a S hv Kc Q hK _ => ?_⟩
  obtain ⟨i, hu, hi, hsz, _, hz, hk⟩ := slI_inv hsl
  have hvs := hv s (by simp [ho, Op.operands, Call.operands])
  have hvx := hv x (by simp [ho, Op.operands, Call.operands])
  rw [hs] at hvs
  rw [hx] at hvx
  obtain ⟨d2, hd2⟩ := Option.isSome_iff_exists.1 ht2
  have hnint := notInt1 d2 (notInt0 hd2 hti)
  generalize hzs : a.eval s = vs at hvs
  generalize hzx : a.eval x = vx at hvx
  have hvs0 := hvs
  cases hvs with
  | full hd =>
    rename_i A
    cases hvx with
    | nn hdx =>
      rename_i a2 c2
      have hrun : (execOp a.eval o).run P w = .ok (.value (.slice A 0 0)) w := by
        unfold execOp
        simp only [ho, resolve, invoke, builtin, List.map_toArray, List.map_cons, List.map_nil, hzs, hzx]
        have hni := notInt0 hd2 hti
        cases A <;> simp [Builtin.append_, run_underlying hu, run_sizeOf hi, hsz, run_underlying hd2, Builtin.lenOf, Builtin.firstCells, loadCells, storeCells, loadCellsFrom]
        all_goals
          cases d2 with
          | int kk => exact absurd rfl (hni kk)
          | _ => simp [loadCellsFrom, storeCells]
      unfold Oper.wp
      rw [hrun]
      exact hK _ _ G _ _ (lvc_ok _ _ _ kk) (Gle.refl G) S hvs0
end
end Go.Proofs.YthhfbolhlbgbgaaDoor

namespace Go.Proofs.YthhfbolhlbgbgaaDoor
open Go.RowKit
set_option linter.unusedSimpArgs false
set_option linter.unusedVariables false
/-- whatever order is picked; until operation e0 comes up, M holds of the heap -/
def AAnyM (P : Program) (T : Tbl) (cp : Bool) (md : Region.Mode) (ops : Array Oper) (e0 : Nat) (M : AH → Prop) (K : List AV → AH → Prop) (X : AV → AH → Prop) : Nat → Array Bool → List AV → AH → Prop
  | 0, listed, sl, h => (listed.getD e0 false = false → M h) ∧ Region.ready md ops listed = [] ∧ K sl h
  | fuel + 1, listed, sl, h => (listed.getD e0 false = false → M h) ∧ (Region.ready md ops listed = [] → K sl h) ∧ ∀ i ∈ Region.ready md ops listed, aOp P T cp ops X i (AAnyM P T cp md ops e0 M K X fuel (listed.setIfInBounds i true)) sl h
section
variable {P : Program} {T : Tbl} {cp : Bool} {md : Region.Mode} {ops : Array Oper} {K : List AV → AH → Prop} {X : AV → AH → Prop}
theorem AAnyM.any {e0 : Nat} {M : AH → Prop} : ∀ (fuel : Nat) (listed : Array Bool) (sl : List AV) (h : AH), AAnyM P T cp md ops e0 M K X fuel listed sl h → AAny P T cp md ops K X fuel listed sl h
  | 0, _, _, _, H => H.2
  | fuel + 1, listed, sl, h, H => ⟨H.2.1, fun i hi => by
    have h1 := H.2.2 i hi
    unfold aOp at h1 ⊢
    split
    · rename_i e
      rw [e] at h1
      exact AAnyM.any fuel _ _ _ h1
    · rename_i o e
      rw [e] at h1
      dsimp only at h1
      split
      · rename_i he
        rw [if_pos he] at h1
        exact h1.monoN fun r h' hN => AAnyM.any fuel _ _ _ hN
      · rename_i he
        rw [if_neg he] at h1
        obtain ⟨u, g1, g2, g3⟩ := h1
        exact ⟨u, g1, g2, AAnyM.any fuel _ _ _ g3⟩⟩
theorem e0_un {i e0 : Nat} {listed : Array Bool} (hd : DC md ops listed) (hr : i ∈ Region.ready md ops listed) (hw : waits md ops ops.size e0 i = true) (he : ∃ o0, ops[e0]? = some o0) : listed.getD e0 false = false := by
  obtain ⟨o0, he⟩ := he
  have hiun := getD_false_of (mem_ready.1 hr).1
  cases hl : listed.getD e0 false with
  | false => rfl
  | true =>
    rw [waits_listed hd hiun _ e0 o0 he (hd _ _ he hl)] at hw
    cases hw
theorem getD_true_set {listed : Array Bool} {e0 i : Nat} (h : listed.getD e0 false = true) : (listed.setIfInBounds i true).getD e0 false = true := by
  by_cases hi : i = e0
  · subst hi
    exact getD_set_true h
  · rw [getD_set_ne false hi]; exact h
theorem AAny.toM {e0 : Nat} {M : AH → Prop} : ∀ (fuel : Nat) (listed : Array Bool) (sl : List AV) (h : AH), listed.getD e0 false = true → AAny P T cp md ops K X fuel listed sl h → AAnyM P T cp md ops e0 M K X fuel listed sl h
  | 0, _, _, _, hl, H => ⟨fun e => (by rw [hl] at e; cases e), H⟩
  | fuel + 1, listed, sl, h, hl, H => ⟨fun e => (by rw [hl] at e; cases e), H.1, fun i hi => by
    have h1 := H.2 i hi
    have hl' := getD_true_set (i := i) hl
    unfold aOp at h1 ⊢
    split
    · rename_i e
      rw [e] at h1
      exact AAny.toM fuel _ _ _ hl' h1
    · rename_i o e
      rw [e] at h1
      dsimp only at h1
      split
      · rename_i he
        rw [if_pos he] at h1
        exact h1.monoN fun r h' hN => AAny.toM fuel _ _ _ hl' hN
      · rename_i he
        rw [if_neg he] at h1
        obtain ⟨u, g1, g2, g3⟩ := h1
        exact ⟨u, g1, g2, AAny.toM fuel _ _ _ hl' g3⟩⟩
end
end Go.Proofs.YthhfbolhlbgbgaaDoor

namespace Go.Proofs.YthhfbolhlbgbgaaDoor
open Go.RowKit
set_option linter.unusedSimpArgs false
set_option linter.unusedVariables false
section
variable {P : Program} {T : Tbl} {cp : Bool} {md : Region.Mode} {ops : Array Oper} {K : List AV → AH → Prop} {X : AV → AH → Prop}
theorem AAnyM.freeN {i : Nat} {oi : Oper} {v : AV} {e0 : Nat} {M : AH → Prop} (hne0 : i ≠ e0) (hw0 : hiK oi = true ∨ waits md ops ops.size e0 i = true) (he0 : ∃ o0, ops[e0]? = some o0) (hi : ops[i]? = some oi) (hni : effK cp oi = false) : ∀ (fuel : Nat) (listed : Array Bool) (sl : List AV) (h : AH), DC md ops listed →
    (∀ j oj, ops[j]? = some oj → j ≠ i → listed.getD j true = false → waits md ops ops.size j i = false → oi.apart ops oj = true) →
    i ∈ Region.ready md ops listed → (∀ h', (hiK oi = false → M h') → Yg P T ops oi v sl h') →
    AAnyM P T cp md ops e0 M K X fuel (listed.setIfInBounds i true) (putA oi.dst v sl) h → AAnyM P T cp md ops e0 M K X (fuel + 1) listed sl h := by
  intro fuel
  induction fuel with
  | zero =>
    intro listed sl h hdc _ hr hy H
    have hMu : listed.getD e0 false = false → M h := fun e => H.1 (by rw [getD_set_ne false hne0]; exact e)
    have hM : hiK oi = false → M h := fun e => hMu (hw0.elim (fun t => by rw [e] at t; cases t) fun t => e0_un hdc hr t he0)
    refine ⟨hMu, fun h0 => (by rw [h0] at hr; cases hr), fun j hj => ?_⟩
    by_cases hji : j = i
    · subst hji
      unfold aOp
      rw [hi]
      dsimp only
      rw [if_neg (by rw [hni]; simp)]
      exact ⟨v, hy h hM, fun hh h' => hy h' (fun e => by rw [e] at hh; cases hh), H⟩
    · have := ready_mono hj hji
      rw [H.2.1] at this
      cases this
  | succ fuel ih =>
    intro listed sl h hdc hfree hr hy H
    have hMu : listed.getD e0 false = false → M h := fun e => H.1 (by rw [getD_set_ne false hne0]; exact e)
    have hM : hiK oi = false → M h := fun e => hMu (hw0.elim (fun t => by rw [e] at t; cases t) fun t => e0_un hdc hr t he0)
    refine ⟨hMu, fun h0 => (by rw [h0] at hr; cases hr), fun j hj => ?_⟩
    by_cases hji : j = i
    · subst hji
      unfold aOp
      rw [hi]
      dsimp only
      rw [if_neg (by rw [hni]; simp)]
      exact ⟨v, hy h hM, fun hh h' => hy h' (fun e => by rw [e] at hh; cases hh), H⟩
    · have h1 := H.2.2 j (ready_mono hj hji)
      obtain ⟨hjun, oj, hoj, hall⟩ := mem_ready.1 hj
      have hiun := getD_false_of (mem_ready.1 hr).1
      have hap := hfree j oj hoj hji hjun (waits_listed hdc hiun _ _ _ hoj hall)
      obtain ⟨a1, a2, a3⟩ := Oper.apart_spec hap
      have hfree' : ∀ k ok, ops[k]? = some ok → k ≠ i → (listed.setIfInBounds j true).getD k true = false → waits md ops ops.size k i = false → oi.apart ops ok = true := fun k ok hk hki hun hw => by
        refine hfree k ok hk hki ?_ hw
        by_cases hjk : j = k
        · subst hjk; exact hjun
        · rw [getD_set_ne true hjk] at hun; exact hun
      have next : ∀ (u : AV) (h' : AH), AAnyM P T cp md ops e0 M K X fuel ((listed.setIfInBounds i true).setIfInBounds j true) (putA oj.dst u (putA oi.dst v sl)) h' → AAnyM P T cp md ops e0 M K X (fuel + 1) (listed.setIfInBounds j true) (putA oj.dst u sl) h' := fun u h' hN => by
        refine ih (listed.setIfInBounds j true) (putA oj.dst u sl) h' (hdc.step hj) hfree' (ready_mono hr (Ne.symm hji)) (fun h2 m2 => (hy h2 m2).put a3) ?_
        rw [Array.setIfInBounds_comm _ _ hji, putA_comm a2]
        exact hN
      unfold aOp at h1 ⊢
      rw [hoj] at h1 ⊢
      dsimp only at h1 ⊢
      split
      · rename_i he
        rw [if_pos he] at h1
        exact h1.unput a1 fun r h' hN => next r h' hN
      · rename_i he
        rw [if_neg he] at h1
        obtain ⟨u, g1, g2, g3⟩ := h1
        exact ⟨u, g1.unput a1, fun hk h2 => (g2 hk h2).unput a1, next u h g3⟩
/-- operations before e0, each the only one that is ready: M holds behind each; then e0 and what is left -/
def CHN (P : Program) (T : Tbl) (cp : Bool) (ops : Array Oper) (M : AH → Prop) (lz : List Oper) (K : List AV → AH → Prop) (X : AV → AH → Prop) : List Oper → List AV → AH → Prop
  | [], s, h => DW P T cp ops lz s h K X
  | o :: l, s, h => DW P T cp ops [o] s h (fun s2 h2 => M h2 ∧ CHN P T cp ops M lz K X l s2 h2) X
def ordCN (cp : Bool) (md : Region.Mode) (ops : Array Oper) (e0 : Nat) (ord2 : List Nat) : List Nat → Array Bool → Bool
  | [], listed => ordB cp md ops (e0 :: ord2) listed
  | i :: r, listed => (Region.ready md ops listed == [i]) && ordCN cp md ops e0 ord2 r (listed.setIfInBounds i true)
theorem CHN.any {e0 : Nat} {oe : Oper} {M : AH → Prop} {ord2 : List Nat} {l2 : List Oper} (hoe : ops[e0]? = some oe) (hee : effK cp oe = true) (hl2 : l2.length = ord2.length) (hm2 : ∀ (n i : Nat), ord2[n]? = some i → l2[n]? = ops[i]?) : ∀ (ord : List Nat) (l : List Oper) (listed : Array Bool) (sl : List AV) (h : AH), l.length = ord.length → (∀ (n i : Nat), ord[n]? = some i → l[n]? = ops[i]?) → DC md ops listed → ordCN cp md ops e0 ord2 ord listed = true → M h →
    CHN P T cp ops M (oe :: l2) K X l sl h → AAnyM P T cp md ops e0 M K X (ord.length + (ord2.length + 1)) listed sl h
  | [], [], listed, sl, h, _, _, hdc, hB, hM, H => by
    unfold ordCN ordB at hB
    rw [hoe] at hB
    simp only [Bool.and_eq_true, hee, if_true] at hB
    obtain ⟨⟨hr, hf⟩, hB'⟩ := hB
    have hr : e0 ∈ Region.ready md ops listed := by simpa using hr
    have hone : Region.ready md ops listed = [e0] := by simpa using hf
    rw [List.length_nil, Nat.zero_add]
    refine ⟨fun _ => hM, fun h0 => (by rw [h0] at hr; cases hr), fun j hj => ?_⟩
    rw [hone] at hj
    have hj : j = e0 := by simpa using hj
    subst hj
    unfold aOp
    rw [hoe]
    dsimp only
    rw [if_pos hee]
    have H : DW P T cp ops (oe :: l2) sl h K X := H
    unfold DW at H
    rw [if_pos hee] at H
    have hlt : j < listed.size := by
      rcases Nat.lt_or_ge j listed.size with h1 | h1
      · exact h1
      · have := (mem_ready.1 hr).1
        simp [Array.getElem?_eq_none h1] at this
    exact H.monoN fun r h' hN => AAny.toM _ _ _ _ (by simp [hlt]) (DW.any ord2 l2 _ _ _ hl2 hm2 (hdc.step hr) hB' hN)
  | [], _ :: _, _, _, _, hl, _, _, _, _, _ => by simp at hl
  | _ :: _, [], _, _, _, hl, _, _, _, _, _ => by simp at hl
  | i :: ord, o :: l, listed, sl, h, hl, hmap, hdc, hB, hM, H => by
    have hi : ops[i]? = some o := (hmap 0 i rfl).symm
    unfold ordCN at hB
    simp only [Bool.and_eq_true] at hB
    obtain ⟨hf, hB'⟩ := hB
    have hone : Region.ready md ops listed = [i] := by simpa using hf
    have hr : i ∈ Region.ready md ops listed := by rw [hone]; exact List.mem_cons_self ..
    rw [List.length_cons, Nat.succ_add]
    have next : ∀ (s2 : List AV) (h2 : AH), M h2 ∧ CHN P T cp ops M (oe :: l2) K X l s2 h2 → AAnyM P T cp md ops e0 M K X (ord.length + (ord2.length + 1)) (listed.setIfInBounds i true) s2 h2 := fun s2 h2 hN =>
      CHN.any hoe hee hl2 hm2 ord l _ _ _ (by simpa using hl) (fun n k e => by simpa using hmap (n + 1) k (by simpa using e)) (hdc.step hr) hB' hN.1 hN.2
    refine ⟨fun _ => hM, fun h0 => (by rw [h0] at hr; cases hr), fun j hj => ?_⟩
    rw [hone] at hj
    have hj : j = i := by simpa using hj
    subst hj
    have H : DW P T cp ops [o] sl h (fun s2 h2 => M h2 ∧ CHN P T cp ops M (oe :: l2) K X l s2 h2) X := H
    unfold DW at H
    unfold aOp
    rw [hi]
    dsimp only
    split
    · rename_i he
      rw [if_pos he] at H
      refine H.monoN fun r h' hN => ?_
      unfold DW at hN
      exact next _ _ hN
    · rename_i he
      rw [if_neg he] at H
      obtain ⟨v, g1, g2, g3⟩ := H
      unfold DW at g3
      exact ⟨v, g1, g2, next _ _ g3⟩
/-- the free operations, one behind the other -/
def FRN (P : Program) (T : Tbl) (ops : Array Oper) (M : AH → Prop) (K : List AV → Prop) : List Oper → List AV → Prop
  | [], s => K s
  | o :: r, s => ∃ v, (∀ h', (hiK o = false → M h') → Yg P T ops o v s h') ∧ FRN P T ops M K r (putA o.dst v s)
theorem FRN.mono {M : AH → Prop} {K K' : List AV → Prop} (hK : ∀ s, K s → K' s) : ∀ {lf : List Oper} {s : List AV}, FRN P T ops M K lf s → FRN P T ops M K' lf s
  | [], s, H => hK s H
  | _ :: _, _, ⟨v, hv, H⟩ => ⟨v, hv, FRN.mono hK H⟩
theorem FRN.nil {M : AH → Prop} {K : List AV → Prop} {s : List AV} (H : K s) : FRN P T ops M K [] s := H
theorem FRN.ld {M : AH → Prop} {K : List AV → Prop} {o : Oper} {r : List Oper} {s : List AV} {v : AV} (hl : hiK o = false) (hg : o.guard = none) (hv : ∀ h', M h' → okV (opP P o.op (ev T s) h') v) (H : FRN P T ops M K r (putA o.dst v s)) : FRN P T ops M K (o :: r) s :=
  ⟨v, fun h' hm => Yg.of_okV hg (hv h' (hm hl)), H⟩
theorem FRN.op {M : AH → Prop} {K : List AV → Prop} {o : Oper} {r : List Oper} {s : List AV} {v : AV} (hg : o.guard = none) (hv : ∀ h', okV (opP P o.op (ev T s) h') v) (H : FRN P T ops M K r (putA o.dst v s)) : FRN P T ops M K (o :: r) s :=
  ⟨v, fun h' hm => Yg.of_okV hg (hv h'), H⟩
theorem FRN.call {M : AH → Prop} {K : List AV → Prop} {o : Oper} {rest : List Oper} {s : List AV} {c : Call} {fo : Operand} {f : FuncId} {cap args : List AV} {r : AV} (ho : o.op = .call c) (hg : o.guard = none) (hc : c.callee = .value fo) (hf : ev T s fo = .fn f cap)
    (C : PC P T f args r) (ha : (c.args.toList.map (ev T s) ++ cap).map frzA = args) (hk : (c.args.toList.map (ev T s) ++ cap).all okF = true) (H : FRN P T ops M K rest (putA o.dst r s)) : FRN P T ops M K (o :: rest) s :=
  ⟨r, fun h' _ => by unfold Yg; rw [hg]; exact AYv.pc ho hc hf C (by rw [← ha]; exact LeL.frz hk), H⟩
def ordFN (cp : Bool) (md : Region.Mode) (ops : Array Oper) (e0 : Nat) : List Nat → Array Bool → Bool
  | [], _ => true
  | i :: r, listed => (Region.ready md ops listed).contains i && (match ops[i]? with
    | some o => !effK cp o && (hiK o || waits md ops ops.size e0 i)
    | none => false) && freeB md ops listed i && !(i == e0) && ordFN cp md ops e0 r (listed.setIfInBounds i true)
theorem AAnyM.frn {fuel : Nat} {e0 : Nat} {M : AH → Prop} (hoe : ∃ o, ops[e0]? = some o) {K2 : List AV → Prop} {h : AH} :
    ∀ (fr : List Nat) (lf : List Oper) (listed : Array Bool) (s : List AV), lf.length = fr.length → (∀ (n i : Nat), fr[n]? = some i → lf[n]? = ops[i]?) → DC md ops listed → ordFN cp md ops e0 fr listed = true →
      (∀ s, DC md ops (lst fr listed) → K2 s → AAnyM P T cp md ops e0 M K X fuel (lst fr listed) s h) → FRN P T ops M K2 lf s → AAnyM P T cp md ops e0 M K X (fr.length + fuel) listed s h
  | [], [], listed, s, _, _, hdc, hB, hc, H => by
    rw [List.length_nil, Nat.zero_add]
    exact hc s hdc H
  | [], _ :: _, _, _, hlen, _, _, _, _, _ => by simp at hlen
  | _ :: _, [], _, _, hlen, _, _, _, _, _ => by simp at hlen
  | i :: fr, o :: lf, listed, s, hlen, hm, hdc, hB, hc, H => by
    have hi : ops[i]? = some o := (hm 0 i rfl).symm
    unfold ordFN at hB
    rw [hi] at hB
    simp only [Bool.and_eq_true, Bool.not_eq_true', Bool.or_eq_true] at hB
    obtain ⟨⟨⟨⟨hr, he, hw⟩, hf⟩, hne⟩, hB⟩ := hB
    have hr : i ∈ Region.ready md ops listed := by simpa using hr
    have hne : i ≠ e0 := by simpa using hne
    obtain ⟨v, hv, H⟩ := H
    rw [List.length_cons, Nat.succ_add]
    exact AAnyM.freeN hne hw hoe hi he _ listed s h hdc (freeB_spec hi hf) hr hv (AAnyM.frn hoe fr lf _ _ (by simpa using hlen) (fun n k e => by simpa using hm (n + 1) k (by simpa using e)) (hdc.step hr) hB hc H)
def ordOkN (cp : Bool) (ops : List Oper) (ord1 fr cs : List Nat) (e0 : Nat) (ord2 : List Nat) : Bool :=
  let A := ops.toArray
  let L0 := Array.replicate ops.length false
  let L1 := lst ord1 L0
  ord1.length + (fr.length + (cs.length + (ord2.length + 1))) == ops.length && ord1.all (fun i => decide (i < ops.length)) && cs.all (fun i => decide (i < ops.length)) && fr.all (fun i => decide (i < ops.length)) && ord2.all (fun i => decide (i < ops.length)) && ordPre cp .any A ord1 L0 && (match ops[e0]? with | some o => effK cp o | none => false) && ordFN cp .any A e0 fr L1 && ordCN cp .any A e0 ord2 cs (lst fr L1)
theorem AWp.drawN {id : Nat} {l : List Oper} {Q : AQ} {sl : List AV} {h : AH} (cp : Bool) (ord1 fr cs : List Nat) (e0 : Nat) (ord2 : List Nat) {oe : Oper} (hm : P.follows .mixedOrders = true) (hB : ordOkN cp l ord1 fr cs e0 ord2 = true) (hoe : l[e0]? = some oe)
    (H : lvc P T cp l.toArray (pick l ord1) sl h (fun s1 h1 => ∃ M : AH → Prop, M h1 ∧ FRN P T l.toArray M (fun s2 => CHN P T cp l.toArray M (oe :: pick l ord2) (fun s h => Q .normal s h) (fun p h => ∀ s, Q (.pan p) s h) (pick l cs) s2 h1) (pick l fr) s1) (fun p h => ∀ s, Q (.pan p) s h)) :
    AWp P T (.region id l.toArray true) Q sl h := by
  simp only [ordOkN, hoe, Bool.and_eq_true, beq_iff_eq] at hB
  obtain ⟨⟨⟨⟨⟨⟨⟨⟨hlen, hall1⟩, hall2⟩, hall3⟩, hall4⟩, hpre⟩, hee⟩, hch⟩, hbb⟩ := hB
  have hlt1 : ∀ i ∈ ord1, i < l.length := fun i hi => by simpa using List.all_eq_true.1 hall1 i hi
  have hlt2 : ∀ i ∈ cs, i < l.length := fun i hi => by simpa using List.all_eq_true.1 hall2 i hi
  have hlt3 : ∀ i ∈ fr, i < l.length := fun i hi => by simpa using List.all_eq_true.1 hall3 i hi
  have hlt4 : ∀ i ∈ ord2, i < l.length := fun i hi => by simpa using List.all_eq_true.1 hall4 i hi
  obtain ⟨p1, p2⟩ := pick_spec hlt1
  obtain ⟨q1, q2⟩ := pick_spec hlt2
  obtain ⟨r1, r2⟩ := pick_spec hlt3
  obtain ⟨z1, z2⟩ := pick_spec hlt4
  have hdc0 : DC .any l.toArray (Array.replicate l.length false) := fun j o _ hj => by
    simp [Array.getElem?_replicate] at hj
    split at hj <;> simp at hj
  refine AWp.of_lift fun G w a S R => wp_region_any hm ?_
  have hany := DW.anyP (P := P) (T := T) (cp := cp) (K := fun s h => Q .normal s h) (X := fun p h => ∀ s, Q (.pan p) s h) (fuel := fr.length + (cs.length + (ord2.length + 1))) ord1 (pick l ord1) (Array.replicate l.length false) sl h p1 (fun n i e => by rw [p2 n i e]; simp) hdc0 hpre
    (DW.monoK (fun s1 h1 ⟨M, hM, hh⟩ => AAnyM.any (M := M) (e0 := e0) _ _ _ _ (AAnyM.frn ⟨oe, by simpa using hoe⟩ fr (pick l fr) _ s1 r1 (fun n c e => by rw [r2 n c e]; simp) (hdc0.lst (cp := cp) ord1 hpre) hch (fun s hdc hs => CHN.any (oe := oe) (l2 := pick l ord2) (by simpa using hoe) hee z1 (fun n c e => by rw [z2 n c e]; simp) cs (pick l cs) _ s h1 q1 (fun n i e => by rw [q2 n i e]; simp) hdc hbb hM hs) hh)) _ _ _ (lvc_ok _ _ _ H))
  rw [hlen] at hany
  have := AAny.wp _ _ _ _ hany G G w.drew a a.defers (Gle.refl G) S.drew R rfl
  simpa using this
theorem AWp.dsN {id : Nat} {l : List Oper} {y : Code} {Q : AQ} {sl : List AV} {h : AH} (cp : Bool) (ord1 fr cs : List Nat) (e0 : Nat) (ord2 : List Nat) {oe : Oper} (hm : P.follows .mixedOrders = true) (hB : ordOkN cp l ord1 fr cs e0 ord2 = true) (hoe : l[e0]? = some oe)
    (H : ∀ K : List AV → AH → Prop, (∀ s h, AWp P T y Q s h → K s h) → lvc P T cp l.toArray (pick l ord1) sl h (fun s1 h1 => ∃ M : AH → Prop, M h1 ∧ FRN P T l.toArray M (fun s2 => CHN P T cp l.toArray M (oe :: pick l ord2) K (fun p h => ∀ s, Q (.pan p) s h) (pick l cs) s2 h1) (pick l fr) s1) (fun p h => ∀ s, Q (.pan p) s h)) :
    AWp P T (.seq (.region id l.toArray true) y) Q sl h := AWp.seq fun K hK => AWp.drawN cp ord1 fr cs e0 ord2 hm hB hoe (H K hK)
end
attribute [go_sem] CHN
end Go.Proofs.YthhfbolhlbgbgaaDoor

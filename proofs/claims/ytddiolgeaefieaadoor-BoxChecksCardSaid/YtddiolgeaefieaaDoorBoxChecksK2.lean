/- Texts that the law BoxChecks rests on, packed. -/
import Derived.Test.YtddiolgeaefieaaDoorBoxChecksK1
namespace Go.Proofs.YtddiolgeaefieaaDoor
open Go.RowKit
set_option linter.unusedSimpArgs false
set_option linter.unusedVariables false
/-- a slice over an object's rows; no rows: nil -/
def mA (b k c n : Nat) : AV := if n = 0 then .nils else .arr b k n c
def mO (b k c : Nat) (rows : List (List AV)) (F : List (Nat × Ob)) : List (Nat × Ob) := if rows.length = 0 then F else (b, ⟨k, c, rows⟩) :: F
theorem mA_nil (b k c : Nat) : mA b k c 0 = .nils := rfl
theorem mA_pos {b k c n : Nat} (h : 0 < n) : mA b k c n = .arr b k n c := if_neg (by omega)
theorem mA_succ (b k c n : Nat) : mA b k c (n + 1) = .arr b k (n + 1) c := rfl
theorem mO_nil (b k c : Nat) (F : List (Nat × Ob)) : mO b k c [] F = F := rfl
theorem mO_pos {b k c : Nat} {rows : List (List AV)} {F : List (Nat × Ob)} (h : 0 < rows.length) : mO b k c rows F = (b, ⟨k, c, rows⟩) :: F := if_neg (by omega)
def dRows (src : List (List D)) : List (List AV) := src.map fun r => r.map .d
section
variable {P : Program} {T : Tbl} {G : Gh} {h : AH} {w : World}
theorem append_genM {t t2 e k by_ : Nat} (ty : TypeId) (hsl : slI P t = some (e, k, by_)) (ht2 : ∃ d, P.underlying t2 = some d ∧ ∀ kk, d ≠ .int kk) {B : Nat} (hB : B ≤ w.heap.size) {n m : Nat} {A : Option Addr} {c : Nat}
    {x : Value} {old new : List Value} (holdlen : old.length = n * k) (hcells : new.length = m * k) (hone : ∀ v ∈ new, v.oneCell' = true) (hlen : ∀ w', (Builtin.lenOf x).run P w' = .ok m w')
    (hread : ∀ w' : World, w'.heap = w.heap → (Builtin.firstCells k m x).run P w' = .ok new.toArray w') (h63 : n + m ≤ maxLen) (hby : (n + m) * by_ ≤ 140737488355328) (hm : 0 < m)
    (ho2 : ∀ w' : World, w'.heap = w.heap → (Builtin.firstCells k n (.slice A n c)).run P w' = .ok old.toArray w') (hcm : c ≤ maxLen)
    (hA0 : A = none → c = 0) (hA : ∀ a, A = some a → ∃ (g : Nat) (vs : Array Value) (ety : TypeId) (fz : Nat × Nat), a = ⟨g, 0, none⟩ ∧ B ≤ g ∧ w.heap[g]? = some (.cells vs ety fz) ∧ vs.size = c * k ∧
      (∀ o, o < vs.size → (decide (fz.1 ≤ o) && decide (o < fz.2)) = false) ∧ ∀ o, o < n * k → vs[o]? = old[o]?)
    {R : Value → World → Prop}
    (fin : ∀ (b c2 : Nat) (w' : World) (vs : Array Value) (ty : TypeId) (fz : Nat × Nat), B ≤ b → n + m ≤ c2 → c2 ≤ maxLen → Below B w w' → w'.heap[b]? = some (.cells vs ty fz) → vs.size = c2 * k →
      (∀ o, o < vs.size → (decide (fz.1 ≤ o) && decide (o < fz.2)) = false) → (∀ o, o < (n + m) * k → vs[o]? = (old ++ new)[o]?) → (∀ b', b' ≠ b → b' < w.heap.size → w'.heap[b']? = w.heap[b']?) →
      (A = some ⟨b, 0, none⟩ ∨ b = w.heap.size) → R (.slice (some ⟨b, 0, none⟩) (n + m) c2) w') :
    ∃ v w', (Builtin.append_ #[t, t2] ty #[.slice A n c, x]).run P w = .ok v w' ∧ R v w' := by
  obtain ⟨i, hu, hi, hsz, hbytes, hz, hk⟩ := slI_inv hsl
  obtain ⟨z, hz1, hz2⟩ := Option.map_eq_some_iff.1 hz
  obtain ⟨d2, hu2, hd2⟩ := ht2
  have hnint : (match d2 with | .int _ => true | _ => false) = false := by cases d2 <;> first | rfl | exact absurd rfl (hd2 _)
  have hnum2 : ¬ (((n + m : Nat) : Int) > IntKind.i64.max) := by
    have : IntKind.i64.max = 9223372036854775807 := by decide
    unfold maxLen at h63
    omega
  by_cases hfit : n + m ≤ c
  · cases A with
    | none =>
      have := hA0 rfl
      omega
    | some a =>
      obtain ⟨g, vs, ety, fz, rfl, hgb, hheap, hvs, hfz, hsame⟩ := hA a rfl
      have hle : (n + m) * k ≤ vs.size := by rw [hvs]; exact Nat.mul_le_mul_right _ hfit
      obtain ⟨vs', q1, q2, q3⟩ := setCells_heap g new (n * k) w vs ety fz hheap
      have hR := fin g c (w.setCells g (n * k) new) vs' ety fz hgb hfit hcm ((setCells_wrote g _ _ w).below hgb) q1 (by rw [q2]; exact hvs) (by rw [q2]; exact hfz) (fun o ho => by
          rw [q3 o (by omega)]
          by_cases hon : n * k ≤ o
          · rw [if_pos (by rw [hcells]; rw [Nat.add_mul] at ho; omega), List.getElem?_append_right (by omega), holdlen]
          · rw [if_neg (by omega), List.getElem?_append_left (by omega)]
            exact hsame o (by omega)) (fun b' hb' _ => (setCells_wrote g _ _ w).block b' hb') (.inl rfl)
      refine ⟨_, _, ?_, hR⟩
      have h1 := hread w rfl
      have hst := run_storeCells_cells (P := P) g (n * k) new 0 w (fun j hj => by
          rw [cell_of_row _ _ _ vs ety fz hheap, Nat.add_zero, Array.getElem?_eq_getElem (by rw [Nat.add_mul] at hle; omega)]
          rfl) (fun j hj => by
          have := hfz (n * k + j) (by rw [Nat.add_mul] at hle; omega)
          simp only [World.frozen?, hheap, Nat.add_zero]
          exact this) hone
      simp only [Nat.add_zero] at hst
      simp [Builtin.append_, run_underlying hu, run_sizeOf hi, hsz, run_underlying hu2, hnint, hlen, h1, hfit, add_at, hst]
  · have hneed : c < n + m := by omega
    let q := Question.appendCap (n + m) c e
    have hcap : n + m ≤ q.cut (w.tape w.drawn q) ∧ q.cut (w.tape w.drawn q) ≤ maxLen := by
      have h0 : 0 < 2 ^ 63 - (n + m) := by unfold maxLen at h63; omega
      have := Nat.mod_lt (w.tape w.drawn q) h0
      show n + m ≤ n + m + w.tape w.drawn q % _ ∧ _ + w.tape w.drawn q % _ ≤ _
      unfold maxLen at *
      omega
    generalize hq : q.cut (w.tape w.drawn q) = cap at hcap
    let vs : Array Value := old.toArray ++ new.toArray ++ Builtin.zeroCells z.cells (cap - (n + m))
    have hzs : (Builtin.zeroCells z.cells (cap - (n + m))).size = (cap - (n + m)) * k := by simp [Builtin.zeroCells, hz2]
    have hvs : vs.size = cap * k := by
      show (old.toArray ++ new.toArray ++ _).size = _
      rw [Array.size_append, Array.size_append, hzs]
      simp only [List.size_toArray, holdlen, hcells]
      rw [← Nat.add_mul, ← Nat.add_mul]
      congr 1
      omega
    have hR := fin w.heap.size cap (w.drew.alloc (.cells vs e)) vs e (0, 0) hB hcap.1 hcap.2 ((Below.refl _ _).drew.alloc hB _) (heap_alloc_new w.drew _) hvs (fun o _ => by simp) (fun o ho => by
        have h1 : o < (old ++ new).length := by rw [List.length_append, holdlen, hcells, ← Nat.add_mul]; exact ho
        show (old.toArray ++ new.toArray ++ _)[o]? = _
        rw [Array.getElem?_append_left (by simpa using h1)]
        simp) (fun b' hb' hlt => Below.heap_alloc w.drew _ b' hlt) (.inr rfl)
    refine ⟨_, _, ?_, hR⟩
    have hd := hread w.drew rfl
    have hod := ho2 w.drew rfl
    have hfits : ¬ ((Builtin.nextslicecap (n + m) c * i.bytes) > 2 ^ 48) := by
      have := growslice_fits (need := n + m) (old := c) (bytes := by_) hneed hby
      rw [hbytes]
      omega
    have hask : ∀ n w', (askRoom n).run P w' = .ok () w' := fun n w' => by unfold askRoom; split <;> rfl
    have hforced : q.forced = false := rfl
    have hchoose : (choose q).run P w = .ok cap w.drew := by
      show (if q.forced = true then _ else _ : Result Nat) = _
      rw [hforced]
      simp only [Bool.false_eq_true, if_false]
      rw [← hq]
      rfl
    have hch : (choose (.appendCap (n + m) c e)).run P w = .ok cap w.drew := hchoose
    have hfits' : ¬ (2 ^ 48 < Builtin.nextslicecap (n + m) c * i.bytes) := hfits
    simp only [Builtin.append_, Sem.run_bind, run_underlying hu, run_underlying hu2, run_sizeOf hi, Result.andThen_ok, List.getElem?_toArray, List.getElem?_cons_zero, List.getElem?_cons_succ, Sem.run_pure, hsz, hnint, hlen, bind_assoc, pure_bind, Bool.false_eq_true, if_false]
    rw [if_neg hfit]
    have hti : ∀ w', (typeInfo e).run P w' = .ok i w' := fun w' => by simp [typeInfo, hi]
    have hzv : (zeroValue e).run P w.drew = .ok z w.drew := by simp [zeroValue, typeInfo, hi, hz1]
    simp only [Sem.run_bind, Sem.run_ite, Result.andThen_ok, hti, hod, hd, hask, hch, hzv, Sem.run_pure, hfits, if_false, bind_assoc, pure_bind]
    rw [if_neg (fun hh => hnum2 hh.1)]
    simp [hti, hfits', hod, hd, hzv, hask, newRow, newObj, Sem.run]
    simp [vs]
/-- an object in a block that was fresh, or was its own -/
theorem Sim.setM {H F : List (Nat × Ob)} {L : List Nat} {w' : World} (S : Sim T G ⟨H, L⟩ w) (hF : F.Sublist H) {b : Nat} {ob : Ob} (hno : ∀ o, G.frz b o = none) (hbF : b ∉ F.map Prod.fst) (hbt : ∀ t ∈ L, tokBlk G t ≠ some b)
    (hbel : Below G.base.heap.size w w') (hoth : ∀ b', b' ≠ b → b' < w.heap.size → w'.heap[b']? = w.heap[b']?) (hob : ObR G w' b ob) : Sim T G ⟨(b, ob) :: F, L⟩ w' := by
  refine ⟨S.below.trans hbel, S.glob, fun b' o u e => ?_, S.fin, fun p hp => ?_, ?_, fun t ht => ?_, S.tdis, fun t ht g hg => ?_, S.lnd⟩
  · by_cases hbb : b' = b
    · subst hbb; rw [hno] at e; cases e
    · have := S.frz b' o u e
      rw [← this]
      exact World.cell?_of_block (w := w) (a := ⟨b', o, none⟩) (hoth b' hbb (S.frzlt e))
  · rcases List.mem_cons.1 hp with rfl | hp
    · exact hob
    · have hO := S.obj p (hF.subset hp)
      exact hO.world (hoth _ (fun e => hbF (by rw [← e]; exact List.mem_map_of_mem hp)) hO.lt)
  · rw [List.map_cons, List.nodup_cons]
    exact ⟨hbF, S.nd.sublist (hF.map _)⟩
  · have hL := S.liv t ht
    exact hL.world (fun g hg => hoth g (fun e => hbt t ht (by rw [← e]; exact hg)) (hL.lt hg))
  · rw [List.map_cons, List.mem_cons]
    rintro (rfl | hm)
    · exact hbt t ht hg
    · exact S.todis t ht g hg ((hF.map _).subset hm)
theorem dRows_get {src : List (List D)} {i : Nat} {r : List AV} (h : (dRows src)[i]? = some r) : ∃ q, src[i]? = some q ∧ r = q.map .d := by
  unfold dRows at h
  rw [List.getElem?_map] at h
  obtain ⟨q, h1, h2⟩ := Option.map_eq_some_iff.1 h
  exact ⟨q, h1, h2.symm⟩
theorem run_appendM {t t2 e k by_ : Nat} (ty : TypeId) (hsl : slI P t = some (e, k, by_)) (ht2 : ∃ d, P.underlying t2 = some d ∧ ∀ kk, d ≠ .int kk) {b0 c0 : Nat} {rows : List (List AV)} {F : List (Nat × Ob)} {L : List Nat} {src : List (List D)}
    (S : Sim T G ⟨mO b0 k c0 rows F, L⟩ w) (hfull : ∀ r ∈ rows, r.length = k) {v0 : Value} (hv : VR G (mA b0 k c0 rows.length) v0) {x : Value} {new : List Value} (hnew : CellRows G.frz k src new) (hlen : ∀ w', (Builtin.lenOf x).run P w' = .ok src.length w')
    (hread : ∀ w' : World, w'.heap = w.heap → (Builtin.firstCells k src.length x).run P w' = .ok new.toArray w') (h63 : rows.length + src.length ≤ maxLen) (hby : (rows.length + src.length) * by_ ≤ 140737488355328) (hm : 0 < src.length) :
    ∃ v w', (Builtin.append_ #[t, t2] ty #[v0, x]).run P w = .ok v w' ∧ ∃ b c, freshL b F ∧ Sim T G ⟨(b, ⟨k, c, rows ++ dRows src⟩) :: F, L⟩ w' ∧ VR G (.arr b k (rows.length + src.length) c) v := by
  obtain ⟨_, _, _, _, _, _, hk⟩ := slI_inv hsl
  have hcells : new.length = src.length * k := hnew.1
  -- what the append needs of memory
  obtain ⟨A, c, old, rfl, holdlen, ho2, hcm, hA0, hA, hF, hval, hbo⟩ : ∃ (A : Option Addr) (c : Nat) (old : List Value), v0 = .slice A rows.length c ∧ old.length = rows.length * k ∧ (∀ w' : World, w'.heap = w.heap → (Builtin.firstCells k rows.length (.slice A rows.length c)).run P w' = .ok old.toArray w') ∧ c ≤ maxLen ∧
      (A = none → c = 0) ∧ (∀ a, A = some a → ∃ (g : Nat) (vs : Array Value) (ety : TypeId) (fz : Nat × Nat), a = ⟨g, 0, none⟩ ∧ G.base.heap.size ≤ g ∧ w.heap[g]? = some (.cells vs ety fz) ∧ vs.size = c * k ∧
        (∀ o, o < vs.size → (decide (fz.1 ≤ o) && decide (o < fz.2)) = false) ∧ ∀ o, o < rows.length * k → vs[o]? = old[o]?) ∧ F.Sublist (mO b0 k c0 rows F) ∧
      (∀ (i : Nat) (r : List AV) (j : Nat) (a : AV), rows[i]? = some r → r[j]? = some a → a.one = true ∧ ∃ v, old[i * k + j]? = some v ∧ VR G a v) ∧
      (∀ b, A = some ⟨b, 0, none⟩ → (∀ o, G.frz b o = none) ∧ b ∉ F.map Prod.fst ∧ ∀ t ∈ L, tokBlk G t ≠ some b) := by
    rcases Nat.eq_zero_or_pos rows.length with h0 | h0
    · have hr : rows = [] := List.eq_nil_of_length_eq_zero h0
      subst hr
      rw [show mA b0 k c0 ([] : List (List AV)).length = .nils from rfl] at hv
      cases hv
      exact ⟨none, 0, [], rfl, by simp, fun w' _ => rfl, by decide, fun _ => rfl, fun a e => (by cases e), List.Sublist.refl _, fun i r j a e => by simp at e, fun b e => by cases e⟩
    · rw [mA_pos h0] at hv
      rw [mO_pos h0] at S ⊢
      cases hv
      have hO := S.obj _ (List.mem_cons_self ..)
      obtain ⟨vs, ety, fz, hheap, hvs, hfz, hm⟩ := hO.mem
      have hfit := hO.fits
      dsimp only at hvs hm hheap hfit
      have hle : rows.length * k ≤ vs.size := by rw [hvs]; exact Nat.mul_le_mul_right _ hfit
      have hcell : ∀ o, o < rows.length * k → (vs.toList.take (rows.length * k))[o]? = vs[o]? := fun o ho => by rw [List.getElem?_take_of_lt ho, Array.getElem?_toList]
      refine ⟨some ⟨b0, 0, none⟩, c0, vs.toList.take (rows.length * k), rfl, by simp; exact Nat.min_eq_left hle, fun w' hw' => ?_, hO.cmax, (fun e => by cases e), fun a e => ?_, List.sublist_cons_self .., fun i r j a h1 h2 => ?_, fun b e => ?_⟩
      · have := run_loadCells_list (P := P) w' ⟨b0, 0, none⟩ (vs.toList.take (rows.length * k)) (fun q v hv => by
          have hq : q < rows.length * k := by
            have := (List.getElem?_eq_some_iff.1 hv).1
            simp at this; omega
          rw [hcell q hq] at hv
          rw [add_at, Nat.zero_add]
          have := cell_of_row w b0 q vs ety fz hheap
          rw [hv] at this
          simpa [World.cell?, hw'] using this)
        simpa [Builtin.firstCells, Nat.min_eq_left hle] using this
      · injection e with e
        exact ⟨b0, vs, ety, fz, e.symm, hO.low, hheap, hvs, hfz, fun o ho => (hcell o ho).symm⟩
      · obtain ⟨h3, v, h4, h5⟩ := hm i r j a h1 h2
        refine ⟨h3, v, ?_, h5⟩
        have hi : i < rows.length := (List.getElem?_eq_some_iff.1 h1).1
        have hj : j < k := by rw [← hfull r (List.mem_of_getElem? h1)]; exact (List.getElem?_eq_some_iff.1 h2).1
        have hlt : i * k + j < rows.length * k := by
          calc i * k + j < i * k + k := by omega
            _ = (i + 1) * k := by rw [Nat.succ_mul]
            _ ≤ rows.length * k := Nat.mul_le_mul_right _ (by omega)
        rw [hcell _ hlt]; exact h4
      · injection e with e
        injection e with e1
        subst e1
        refine ⟨fun o => ?_, (List.nodup_cons.1 S.nd).1, fun t ht e => S.todis t ht _ e (List.mem_cons_self ..)⟩
        rcases Nat.lt_or_ge o (rows.length * k) with ho | ho
        · have hi : o / k < rows.length := Nat.div_lt_of_lt_mul (by rw [Nat.mul_comm]; exact ho)
          have h1 : rows[o / k]? = some rows[o / k] := List.getElem?_eq_getElem hi
          have := hO.free (o / k) _ (o % k) h1 (by rw [hfull _ (List.getElem_mem hi)]; exact Nat.mod_lt _ hk)
          dsimp only at this
          rwa [← cells_div hk] at this
        · exact hO.rest o ho
  refine append_genM ty hsl ht2 S.below.size holdlen hcells hnew.2.2.1 hlen hread h63 hby hm ho2 hcm hA0 hA (R := fun v w' => ∃ b c, freshL b F ∧ Sim T G ⟨(b, ⟨k, c, rows ++ dRows src⟩) :: F, L⟩ w' ∧ VR G (.arr b k (rows.length + src.length) c) v) ?_
  intro b c2 w' vs ety fz hb hc2 hcm2 hbel hheap hvs hfz hsame hoth hwhere
  obtain ⟨hno, hbF, hbt⟩ : (∀ o, G.frz b o = none) ∧ b ∉ F.map Prod.fst ∧ ∀ t ∈ L, tokBlk G t ≠ some b := by
    rcases hwhere with e | e
    · exact hbo b e
    · subst e
      refine ⟨fun o => S.nofrz (Nat.le_refl _) o, fun hm => ?_, fun t ht e => ?_⟩
      · obtain ⟨p, hp, e⟩ := List.mem_map.1 hm
        have := S.fresh p (hF.subset hp)
        omega
      · have := (S.liv t ht).lt e
        omega
  refine ⟨b, c2, fresh_objs fun p hp e => hbF (by rw [← e]; exact List.mem_map_of_mem hp), S.setM hF hno hbF hbt hbel hoth ⟨hb, fun _ _ _ _ _ => hno _, fun _ _ => hno _, fun r hr => .inl ?_, by simp [dRows]; exact hc2, hcm2, vs, ety, fz, hheap, hvs, hfz, fun i r j a hr ha => ?_⟩, .arr b k _ c2⟩
  · rcases List.mem_append.1 hr with hr | hr
    · exact hfull r hr
    · obtain ⟨i, hi⟩ := List.mem_iff_getElem?.1 hr
      obtain ⟨q, h1, rfl⟩ := dRows_get hi
      rw [List.length_map]
      exact hnew.2.1 q (List.mem_of_getElem? h1)
  · dsimp only at hr ⊢
    have hik : ∀ {i n : Nat}, i < n → ∀ {j}, j < k → i * k + j < n * k := fun {i n} hi {j} hj => by
      calc i * k + j < i * k + k := by omega
        _ = (i + 1) * k := by rw [Nat.succ_mul]
        _ ≤ n * k := Nat.mul_le_mul_right _ (by omega)
    rcases Nat.lt_or_ge i rows.length with hi | hi
    · rw [List.getElem?_append_left hi] at hr
      obtain ⟨h3, v, h4, h5⟩ := hval i r j a hr ha
      have hj : j < k := by rw [← hfull r (List.mem_of_getElem? hr)]; exact (List.getElem?_eq_some_iff.1 ha).1
      have h6 := hik hi hj
      refine ⟨h3, v, ?_, h5⟩
      rw [hsame _ (by rw [Nat.add_mul]; omega), List.getElem?_append_left (by omega)]
      exact h4
    · rw [List.getElem?_append_right hi] at hr
      obtain ⟨q, h1, rfl⟩ := dRows_get hr
      rw [List.getElem?_map] at ha
      obtain ⟨d, hd, rfl⟩ := Option.map_eq_some_iff.1 ha
      obtain ⟨v, h3, h4⟩ := hnew.2.2.2 _ _ _ _ h1 hd
      have hi2 : i - rows.length < src.length := (List.getElem?_eq_some_iff.1 h1).1
      have hj : j < k := by rw [← hnew.2.1 q (List.mem_of_getElem? h1)]; exact (List.getElem?_eq_some_iff.1 hd).1
      have h6 := hik hi2 hj
      have h7 : i * k + j = rows.length * k + ((i - rows.length) * k + j) := by
        rw [← Nat.add_assoc, ← Nat.add_mul]; congr 2; omega
      refine ⟨rfl, v, ?_, .d h4⟩
      rw [hsame _ (by rw [Nat.add_mul]; omega), List.getElem?_append_right (by omega), holdlen, h7, Nat.add_sub_cancel_left]
      exact h3
variable {sl : List AV} {ops : Array Oper} {rest : List Oper} {o : Oper} {K : List AV → AH → Prop} {X : AV → AH → Prop} {cp : Bool} {Q : AQ}
theorem DW.appM {s x : Operand} {t t2 e k by_ b0 c0 : Nat} {rows : List (List AV)} {F : List (Nat × Ob)} {L : List Nat} {src : List (List D)} {k' : Nat} (ho : o.op = .call { callee := .builtin .append, args := #[s, x], argTypes := #[t, t2] }) (hg : o.guard = none) (hs : ev T sl s = mA b0 k c0 rows.length) (hh : h = ⟨mO b0 k c0 rows F, L⟩) (hx : srcR (ev T sl x) = some (k', src))
    (hsl : slI P t = some (e, k, by_)) (ht2 : (P.underlying t2).isSome = true) (hti : intI P t2 = none) (hfull : ∀ r ∈ rows, r.length = k) (hkk : k' = k) (hm : 0 < src.length) (h63 : rows.length + src.length ≤ 9223372036854775807) (hby : (rows.length + src.length) * by_ ≤ 140737488355328)
    (kk : ∀ b c, freshL b F → lvc P T cp ops rest (putA o.dst (.arr b k (rows.length + src.length) c) sl) ⟨(b, ⟨k, c, rows ++ dRows src⟩) :: F, L⟩ K X) : DW P T cp ops (o :: rest) sl h K X := by
  subst hh
  unfold DW
  rw [if_pos (effK_append ho hg)]
  refine ⟨hg, fun G w a S hv Kc Q hK _ => ?_⟩
  obtain ⟨_, _, _, _, _, _, hk⟩ := slI_inv hsl
  have hvs := hv s (by simp [ho, Op.operands, Call.operands])
  have hvx := hv x (by simp [ho, Op.operands, Call.operands])
  rw [hs] at hvs
  obtain ⟨new, h1, h2, h3⟩ := src_ok (P := P) hk hx (.inl hkk) S hvx
  obtain ⟨d2, hd2⟩ := Option.isSome_iff_exists.1 ht2
  obtain ⟨v, w', hrun, b, c2, hfr, S', hv'⟩ := run_appendM o.type hsl ⟨d2, hd2, fun kk e => by unfold intI at hti; rw [hd2, e] at hti; cases hti⟩ S hfull hvs h1 h2 h3 (by unfold maxLen; omega) hby hm
  have hrun' : (execOp a.eval o).run P w = .ok (.value v) w' := by
    unfold execOp
    simp only [ho, resolve, invoke, builtin, Sem.run_bind, Sem.run_pure, Result.andThen_ok, List.map_toArray, List.map_cons, List.map_nil, hrun]
  unfold Oper.wp
  rw [hrun']
  exact hK _ _ G v w' (lvc_ok rest _ _ (kk b c2 hfr)) (Gle.refl G) S' hv'
/-- rows that will not be written any more -/
theorem Sim.ownM (P : Program) {b k c : Nat} {rows : List (List D)} {F : List (Nat × Ob)} {L : List Nat} (S : Sim T G ⟨(b, ⟨k, c, dRows rows⟩) :: F, L⟩ w) (hk : 0 < k) (hfull : ∀ r ∈ rows, r.length = k) :
    ∃ G' : Gh, Gle G G' ∧ Sim T G' ⟨F, G.nt :: L⟩ w ∧ VR G' (.own G.nt k rows) (.slice (some ⟨b, 0, none⟩) rows.length c) ∧ freshT G.nt L := by
  have hO := S.obj _ (List.mem_cons_self ..)
  obtain ⟨vs, ety, fz, hheap, hvs, hfz, hm⟩ := hO.mem
  have hcm := hO.cmax
  have hrest := hO.rest
  have hfree := hO.free
  have hlow := hO.low
  have h1 := hO.fits
  dsimp only at hvs hm hcm hrest hlow hheap h1 hfree
  have hlenr : (dRows rows).length = rows.length := by simp [dRows]
  rw [hlenr] at hrest h1
  have hsz : rows.length * k ≤ vs.size := by rw [hvs]; exact Nat.mul_le_mul_right _ h1
  have hget : ∀ (i : Nat) (r : List D), rows[i]? = some r → (dRows rows)[i]? = some (r.map .d) := fun i r h => by unfold dRows; rw [List.getElem?_map, h]; rfl
  have hno : ∀ o, G.frz b o = none := fun o => by
    rcases Nat.lt_or_ge o (rows.length * k) with ho | ho
    · have hi : o / k < rows.length := Nat.div_lt_of_lt_mul (by rw [Nat.mul_comm]; exact ho)
      have := hfree (o / k) _ (o % k) (hget _ _ (List.getElem?_eq_getElem hi)) (by rw [List.length_map, hfull _ (List.getElem_mem hi)]; exact Nat.mod_lt _ hk)
      rwa [← cells_div hk] at this
    · exact hrest o ho
  have hbF : b ∉ F.map Prod.fst := (List.nodup_cons.1 S.nd).1
  have hbt : ∀ t ∈ L, tokBlk G t ≠ some b := fun t ht e => S.todis t ht b e (List.mem_cons_self ..)
  have hnt : ∀ t ∈ L, t ≠ G.nt := fun t ht e => by
    obtain ⟨_, _, _, _, e2, _⟩ := (S.liv _ ht).mem
    rw [S.fin t (by omega)] at e2
    cases e2
  let F' : Frz := fun b' o => if b' = b then (if o < rows.length * k then vs[o]? else none) else G.frz b' o
  let G' : Gh := { base := G.base, frz := F', tok := fun t => if t = G.nt then some (k, .slice (some ⟨b, 0, none⟩) rows.length c) else G.tok t, nt := G.nt + 1 }
  have hF : ∀ b' o u, G.frz b' o = some u → F' b' o = some u := fun b' o u e => by
    show (if b' = b then _ else _) = _
    by_cases hbb : b' = b
    · subst hbb; rw [hno] at e; cases e
    · rw [if_neg hbb]; exact e
  have hG : Gle G G' := ⟨rfl, hF, fun b' o u e => by
    have e' : (if b' = b then (if o < rows.length * k then vs[o]? else none) else G.frz b' o) = some u := e
    by_cases hbb : b' = b
    · exact .inr (by rw [hbb]; exact hlow)
    · rw [if_neg hbb] at e'; exact .inl e', fun t x e => by
    show (if t = G.nt then _ else _) = _
    rw [if_neg (fun e' => by rw [S.fin t (by omega)] at e; cases e)]
    exact e⟩
  have hne_b : ∀ b', b' ≠ b → ∀ o, G.frz b' o = none → F' b' o = none := fun b' hb' o e => by
    show (if b' = b then _ else _) = _
    rw [if_neg hb']; exact e
  have hcell : ∀ (i : Nat) (r : List D) (j : Nat) (x : D), rows[i]? = some r → r[j]? = some x → ∃ v, vs[i * k + j]? = some v ∧ VD F' x v := fun i r j x h2 h3 => by
    obtain ⟨_, v, h4, h5⟩ := hm i _ j (.d x) (hget i r h2) (by rw [List.getElem?_map, h3]; rfl)
    cases h5 with
    | d h5 => exact ⟨v, h4, h5.mono hF⟩
  have htk : ∀ o, o < rows.length * k → (vs.toList.take (rows.length * k))[o]? = vs[o]? := fun o ho => by rw [List.getElem?_take_of_lt ho, Array.getElem?_toList]
  have hCR : CellRows F' k rows (vs.toList.take (rows.length * k)) := by
    refine ⟨by simp; exact Nat.min_eq_left hsz, hfull, fun v hv => ?_, fun i r j x h2 h3 => ?_⟩
    · obtain ⟨q, hq, rfl⟩ := List.getElem_of_mem hv
      have hq' : q < rows.length * k := by simp at hq; omega
      have hi : q / k < rows.length := Nat.div_lt_of_lt_mul (by rw [Nat.mul_comm]; exact hq')
      have hj : q % k < rows[q / k].length := by rw [hfull _ (List.getElem_mem hi)]; exact Nat.mod_lt _ hk
      obtain ⟨v, h4, h5⟩ := hcell (q / k) _ (q % k) _ (List.getElem?_eq_getElem hi) (List.getElem?_eq_getElem hj)
      rw [← cells_div hk] at h4
      have := htk q hq'
      rw [List.getElem?_eq_getElem hq, h4] at this
      injection this with this
      rw [this]; exact h5.one
    · obtain ⟨v, h4, h5⟩ := hcell i r j x h2 h3
      have hi : i < rows.length := (List.getElem?_eq_some_iff.1 h2).1
      have hj : j < k := by rw [← hfull r (List.mem_of_getElem? h2)]; exact (List.getElem?_eq_some_iff.1 h3).1
      have hlt : i * k + j < rows.length * k := by
        calc i * k + j < i * k + k := by omega
          _ = (i + 1) * k := by rw [Nat.succ_mul]
          _ ≤ rows.length * k := Nat.mul_le_mul_right _ (by omega)
      exact ⟨v, by rw [htk _ hlt]; exact h4, h5⟩
  have hVD : VD F' (.slc k rows) (.slice (some ⟨b, 0, none⟩) rows.length c) := VD.of_cells hCR (fun o u hu => by
    have hlt : o < rows.length * k := by
      have := (List.getElem?_eq_some_iff.1 hu).1
      simp at this; omega
    show (if b = b then (if o < _ then vs[o]? else none) else _) = _
    rw [if_pos rfl, if_pos hlt, ← htk o hlt]
    exact hu) h1 hcm
  have hblk : ∀ t ∈ L, tokBlk G' t = tokBlk G t := fun t ht => tokBlk_mono hG (S.liv t ht)
  have hnewblk : tokBlk G' G.nt = some b := by
    unfold tokBlk
    show (match (if G.nt = G.nt then some (k, Value.slice (some ⟨b, 0, none⟩) rows.length c) else _) with | some (_, .slice (some a) _ _) => some a.block | _ => none) = _
    rw [if_pos rfl]
  have htok : G'.tok G.nt = some (k, .slice (some ⟨b, 0, none⟩) rows.length c) := by show (if G.nt = G.nt then _ else _) = _; rw [if_pos rfl]
  refine ⟨G', hG, ?_, .own hVD htok, fresh_tok hnt⟩
  refine ⟨S.below, fun g j x hx => ?_, fun b' o u e => ?_, fun t ht => ?_, fun p hp => ?_, (List.nodup_cons.1 S.nd).2, fun t ht => ?_, ?_, fun t ht g hg => ?_, List.nodup_cons.2 ⟨fun hm => hnt _ hm rfl, S.lnd⟩⟩
  · obtain ⟨u, h2, h3⟩ := S.glob g j x hx
    exact ⟨u, hF _ _ _ h2, h3.mono hF⟩
  · have e' : (if b' = b then (if o < rows.length * k then vs[o]? else none) else G.frz b' o) = some u := e
    by_cases hbb : b' = b
    · subst hbb
      rw [if_pos rfl] at e'
      split at e'
      · rw [cell_of_row _ _ _ vs ety fz hheap]; exact e'
      · cases e'
    · rw [if_neg hbb] at e'
      exact S.frz b' o u e'
  · show (if t = G.nt then _ else _) = _
    have ht' : G.nt + 1 ≤ t := ht
    rw [if_neg (by omega)]
    exact S.fin t (by omega)
  · have hO := S.obj p (List.mem_cons_of_mem _ hp)
    have hpb : p.1 ≠ b := fun e => hbF (by rw [← e]; exact List.mem_map_of_mem hp)
    exact hO.mono hG (fun o ho => hne_b _ hpb o ho)
  · rcases List.mem_cons.1 ht with rfl | ht
    · exact ⟨k, rows.length, c, some ⟨b, 0, none⟩, htok, h1, hcm, hk, (fun e => by cases e), fun a ha => by
        injection ha with ha
        exact ⟨b, vs, ety, fz, ha.symm, hlow, hheap, hvs, hfz, fun o ho => by
          show (if b = b then (if o < _ then _ else none) else _) = none
          rw [if_pos rfl, if_neg (by omega)]⟩⟩
    · exact (S.liv t ht).mono hG (fun g hg o ho => hne_b g (fun e => hbt t ht (by rw [← e]; exact hg)) o ho)
  · refine List.pairwise_cons.2 ⟨fun t ht g h2 h3 => ?_, S.tdis.imp_of_mem fun {a b'} ha hb' hd g h2 h3 => hd g (by rw [← hblk a ha]; exact h2) (by rw [← hblk b' hb']; exact h3)⟩
    rw [hnewblk] at h2
    injection h2 with h2
    subst h2
    rw [hblk t ht] at h3
    exact hbt t ht h3
  · rcases List.mem_cons.1 ht with rfl | ht
    · rw [hnewblk] at hg
      injection hg with hg
      subst hg
      exact hbF
    · rw [hblk t ht] at hg
      exact fun hm => S.todis t ht g hg (List.mem_cons_of_mem _ hm)
theorem VR.ownM {G' : Gh} {b k c t : Nat} {rows : List (List D)} (h : VR G' (.own t k rows) (.slice (some ⟨b, 0, none⟩) rows.length c)) : ∀ v, VR G' (.arr b k rows.length c) v → VR G' (.own t k rows) v := fun v hv => by
  cases hv
  exact h
/-- the slice lies in a cell -/
theorem AWp.ownMH {code : Code} {b b' i j k n c : Nat} {rows : List (List D)} {F : List (Nat × Ob)} {L : List Nat} {ob : Ob} {r : List AV} (hg : getO b' F = some ob) (hr : ob.rows[i]? = some r) (hj : r[j]? = some (.arr b k n c)) (hn : n = rows.length) (hk : 0 < k) (hfull : ∀ r ∈ rows, r.length = k)
    (H : ∀ t, freshT t L → AWp P T code Q sl ⟨setO b' ⟨ob.k, ob.c, ob.rows.set i (r.set j (.own t k rows))⟩ F, t :: L⟩) : AWp P T code Q sl ⟨(b, ⟨k, c, dRows rows⟩) :: F, L⟩ := by
  intro G w a S R
  subst hn
  obtain ⟨_, _, _, _, _, _, g4⟩ := (S.obj _ (List.mem_cons_of_mem _ (getO_mem hg))).mem
  obtain ⟨_, v, _, hv⟩ := g4 i r j _ hr hj
  obtain ⟨G', hG, S', hown, hfr⟩ := S.ownM P hk hfull
  have S2 := S'.recell hg hr hj (a' := .own G.nt k rows) rfl (VR.ownM hown)
  exact wp_mono (H G.nt hfr G' w a S2 (R.mono hG)) fun e a' w' hh => hh.mono hG (fun _ _ _ q => q)
/-- the slice lies in a slot -/
theorem AWp.ownMS {code : Code} {N : Nat} {l : SL} {df : AV} (i : Nat) {b k n c : Nat} {rows : List (List D)} {F : List (Nat × Ob)} {L : List Nat} (hi : lookS df i l = .arr b k n c) (hN : Nat.blt i N = true) (hn : n = rows.length) (hk : 0 < k) (hfull : ∀ r ∈ rows, r.length = k)
    (H : ∀ t, freshT t L → AWp P T code Q (mkS df (insS i (.own t k rows) l) N 0) ⟨F, t :: L⟩) : AWp P T code Q (mkS df l N 0) ⟨(b, ⟨k, c, dRows rows⟩) :: F, L⟩ := by
  intro G w a S R
  subst hn
  have hsl : (mkS df l N 0)[i]? = some (.arr b k rows.length c) := by rw [mkS_get _ _ _ _ _ (by simpa [Nat.blt_eq] using hN), Nat.zero_add, hi]
  obtain ⟨v, hv0, hv⟩ := R.2 i _ hsl
  obtain ⟨G', hG, S', hown, hfr⟩ := S.ownM P hk hfull
  have R' : SlR G' (mkS df (insS i (.own G.nt k rows) l) N 0) a.tmps := by
    rw [← mkS_set]
    refine ⟨by rw [List.length_set]; exact R.1, fun j x hx => ?_⟩
    by_cases hij : i = j
    · subst hij
      rw [List.getElem?_set_self (List.getElem?_eq_some_iff.1 hsl).1] at hx
      injection hx with hx
      subst hx
      exact ⟨_, hv0, VR.ownM hown v (hv.mono hG)⟩
    · rw [List.getElem?_set_ne hij] at hx
      exact (R.mono hG).2 j x hx
  exact wp_mono (H G.nt hfr G' w a S' R') fun e a' w' hh => hh.mono hG (fun _ _ _ q => q)
end
end Go.Proofs.YtddiolgeaefieaaDoor

namespace Go.Proofs.YtddiolgeaefieaaDoor
open Go.RowKit
set_option linter.unusedSimpArgs false
set_option linter.unusedVariables false
@[go_sem] theorem size_ite0 (a b : AV) : (if (#[] : Array UInt8).size ≤ maxLen then a else b) = a := if_pos (Nat.zero_le _)
@[go_sem] theorem size_ite1 (a b : AV) : (if (ByteArray.mk #[]).size ≤ maxLen then a else b) = a := if_pos (Nat.zero_le _)
section
variable {P : Program} {T : Tbl} {G : Gh} {h : AH} {w : World} {sl : List AV} {cp : Bool} {md : Region.Mode} {ops : Array Oper} {K : List AV → AH → Prop} {X : AV → AH → Prop}
theorem ADefer.leH {g : FuncId} {cap : List AV} {h' : AH} {m : Option AV} {R : AH → Prop} (p : LeH h h') (H : ADefer P T g cap h' m R) : ADefer P T g cap h m R := ⟨H.1, fun G w vs u S => H.2 G w vs u (p _ _ _ S)⟩
theorem ADefer.mono {g : FuncId} {cap : List AV} {m : Option AV} {R R' : AH → Prop} (H : ADefer P T g cap h m R) (hR : ∀ h, R h → R' h) : ADefer P T g cap h m R' :=
  ⟨H.1, fun G w vs u S Rs hu => (H.2 G w vs u S Rs hu).mono fun e u' w' ⟨h1, h2, h', G', h3, h4⟩ => ⟨h1, h2, h', G', hR _ h3, h4⟩⟩
/-- what is left behind the deferred closure -/
def dEnd (P : Program) (rs : List ResultVar) (s : List AV) (R : AR → AH → Prop) : AH → Prop := fun h' => ∃ r, resOf P s h' rs = some r ∧ ∃ r', LeA true r r' ∧ ∃ hc, LeH h' hc ∧ R (.ret r') hc
theorem endD_r {R : AR → AH → Prop} {rs : Array ResultVar} {s : List AV} {g : FuncId} {cap : List AV} (gs gt bs ts : List Nat) (H : ADefer P T g cap (ordH gs gt bs ts h) none (dEnd P rs.toList s R)) : endD P T rs R .ret (some (.fn g cap)) s h := H.leH (LeH.ord gs gt bs ts h)
theorem endD_n {R : AR → AH → Prop} {rs : Array ResultVar} {s : List AV} {g : FuncId} {cap : List AV} (gs gt bs ts : List Nat) (H : ADefer P T g cap (ordH gs gt bs ts h) none (dEnd P rs.toList s R)) : endD P T rs R .normal (some (.fn g cap)) s h := H.leH (LeH.ord gs gt bs ts h)
theorem endD_p {R : AR → AH → Prop} {rs : Array ResultVar} {s : List AV} {g : FuncId} {cap : List AV} {p : AV} (gs gt bs ts : List Nat) (H : ADefer P T g cap (ordH gs gt bs ts h) (some p) (dEnd P rs.toList s R)) : endD P T rs R (.pan p) (some (.fn g cap)) s h := H.leH (LeH.ord gs gt bs ts h)
theorem dEnd_mk {R : AR → AH → Prop} {rs : List ResultVar} {s : List AV} {r r' : AV} (gs gt bs ts : List Nat) (hr : resOf P s h rs = some r) (hR : R (.ret r') (ordH gs gt bs ts h)) (hle : LeA true r r') : dEnd P rs s R h := ⟨r, hr, r', hle, _, LeH.ord gs gt bs ts h, hR⟩
theorem AAny.lc0 {i c : Nat} {oi oc : Oper} {ord2 : List Nat} {l2 : List Oper} {listed : Array Bool} {s : List AV} {h : AH} {v : AV} (hi : ops[i]? = some oi) (hc : ops[c]? = some oc) (hni : effK cp oi = false) (hec : effK cp oc = true)
    (hdc : DC md ops listed) (hri : i ∈ Region.ready md ops listed) (hr : ∀ x ∈ Region.ready md ops listed, x = i ∨ x = c) (hrc : c ∈ Region.ready md ops listed) (hic : i ≠ c)
    (hap : oi.apart ops oc = true) (hl : l2.length = ord2.length) (hmap : ∀ (n i : Nat), ord2[n]? = some i → l2[n]? = ops[i]?)
    (hBA : ordB cp md ops (c :: ord2) (listed.setIfInBounds i true) = true) (hone : (Region.ready md ops (listed.setIfInBounds c true)).contains i = true) (hfi : firstB cp md ops (listed.setIfInBounds c true) i = true) (hBB : ordB cp md ops ord2 ((listed.setIfInBounds c true).setIfInBounds i true) = true)
    (hy : Yg P T ops oi v s h)
    (H : ESt P T oc (putA oi.dst v s) h (fun r h' => Yg P T ops oi v s h' ∧ DW P T cp ops l2 (putA oc.dst r (putA oi.dst v s)) h' K X) X)
    (hlo : hiK oi = false) : AAny P T cp md ops K X (ord2.length + 2) listed s h := by
  obtain ⟨a1, a2, a3⟩ := Oper.apart_spec hap
  refine ⟨fun h0 => (by rw [h0] at hri; cases hri), fun x hx => ?_⟩
  rcases hr x hx with rfl | rfl
  · unfold aOp
    rw [hi]
    dsimp only
    rw [if_neg (by rw [hni]; simp)]
    refine ⟨v, hy, fun hh => (by rw [hlo] at hh; cases hh), ?_⟩
    refine DW.any (c :: ord2) (oc :: l2) _ _ _ (by simp [hl]) (fun n k e => ?_) (hdc.step hri) hBA ?_
    · match n with
      | 0 => simp at e; subst e; simp [hc]
      | n + 1 => simp at e ⊢; exact hmap n k e
    · unfold DW
      rw [if_pos hec]
      exact ⟨H.1, fun G w a S hv Kc Q hK hX => H.2 G w a S hv Kc Q (fun r h' G' u' w' hr => hK r h' G' u' w' hr.2) hX⟩
  · unfold aOp
    rw [hc]
    dsimp only
    rw [if_pos hec]
    refine ESt.unput (ops := ops) a1 H fun r h' hh => ?_
    obtain ⟨hy', hD⟩ := hh
    have hri' : i ∈ Region.ready md ops (listed.setIfInBounds x true) := by simpa using hone
    have hdc2 : DC md ops ((listed.setIfInBounds x true).setIfInBounds i true) := (hdc.step hx).step hri'
    refine AAny.first hi hni (ord2.length) (listed.setIfInBounds x true) _ h' (hdc.step hx) (firstB_spec hi hfi) hri' (hy'.put a3) (fun hh => (by rw [hlo] at hh; cases hh)) ?_
    refine DW.any ord2 l2 _ _ _ hl hmap hdc2 hBB ?_
    rw [putA_comm a2]
    exact hD
def ordOkL0 (ops : List Oper) (ord1 : List Nat) (i c : Nat) (ord2 : List Nat) : Bool :=
  let A := ops.toArray
  let L0 := Array.replicate ops.length false
  let L1 := lst ord1 L0
  ord1.length + (ord2.length + 2) == ops.length && ord1.all (fun i => decide (i < ops.length)) && ord2.all (fun i => decide (i < ops.length)) && ordPre false .any A ord1 L0 &&
  (Region.ready .any A L1).contains i && (Region.ready .any A L1).contains c && (Region.ready .any A L1).all (fun x => x == i || x == c) && !(i == c) &&
  (match ops[i]?, ops[c]? with
    | some oi, some oc => !effK false oi && effK false oc && !hiK oi && oi.guard.isNone && oi.apart A oc
    | _, _ => false) &&
  ordB false .any A (c :: ord2) (L1.setIfInBounds i true) && (Region.ready .any A (L1.setIfInBounds c true)).contains i && firstB false .any A (L1.setIfInBounds c true) i && ordB false .any A ord2 ((L1.setIfInBounds c true).setIfInBounds i true)
theorem AWp.drawL0 {id : Nat} {l : List Oper} {Q : AQ} {sl : List AV} {h : AH} (ord1 : List Nat) (i c : Nat) (ord2 : List Nat) {oi oc : Oper} (hm : P.follows .mixedOrders = true) (hB : ordOkL0 l ord1 i c ord2 = true) (hi : l[i]? = some oi) (hc : l[c]? = some oc)
    (H : lvc P T false l.toArray (pick l ord1) sl h (fun s1 h1 => ∃ v, okV (opP P oi.op (ev T s1) h1) v ∧
      DW P T false l.toArray [oc] (putA oi.dst v s1) h1 (fun s2 h2 => okV (opP P oi.op (ev T s1) h2) v ∧ lvc P T false l.toArray (pick l ord2) s2 h2 (fun s h => Q .normal s h) (fun p h => ∀ s, Q (.pan p) s h)) (fun p h => ∀ s, Q (.pan p) s h)) (fun p h => ∀ s, Q (.pan p) s h)) :
    AWp P T (.region id l.toArray true) Q sl h := by
  simp only [ordOkL0, hi, hc, Bool.and_eq_true, beq_iff_eq, Bool.not_eq_true', Option.isNone_iff_eq_none] at hB
  obtain ⟨⟨⟨⟨⟨⟨⟨⟨⟨⟨⟨⟨hlen, hall1⟩, hall2⟩, hpre⟩, hri⟩, hrc⟩, hrall⟩, hic⟩, ⟨⟨⟨⟨k1, k3⟩, k5⟩, k6⟩, k8⟩⟩, hBA⟩, hone⟩, hfi⟩, hBB⟩ := hB
  have hlt1 : ∀ i ∈ ord1, i < l.length := fun i hi => by simpa using List.all_eq_true.1 hall1 i hi
  have hlt2 : ∀ i ∈ ord2, i < l.length := fun i hi => by simpa using List.all_eq_true.1 hall2 i hi
  obtain ⟨p1, p2⟩ := pick_spec hlt1
  obtain ⟨q1, q2⟩ := pick_spec hlt2
  have hdc0 : DC .any l.toArray (Array.replicate l.length false) := fun j o _ hj => by
    simp [Array.getElem?_replicate] at hj
    split at hj <;> simp at hj
  refine AWp.of_lift fun G w a S R => wp_region_any hm ?_
  have hany := DW.anyP (P := P) (T := T) (cp := false) (K := fun s h => Q .normal s h) (X := fun p h => ∀ s, Q (.pan p) s h) (fuel := ord2.length + 2) ord1 (pick l ord1) (Array.replicate l.length false) sl h p1 (fun n i e => by rw [p2 n i e]; simp) hdc0 hpre
    (DW.monoK (fun s1 h1 hh => by
      obtain ⟨v, e1, D⟩ := hh
      unfold DW at D
      rw [if_pos k3] at D
      refine AAny.lc0 (oi := oi) (oc := oc) (l2 := pick l ord2) (by simpa using hi) (by simpa using hc) k1 k3 (hdc0.lst (cp := false) ord1 hpre) (by simpa using hri) (fun x hx => by simpa using List.all_eq_true.1 hrall x hx) (by simpa using hrc) (by simpa using hic) k8 q1 (fun n i e => by rw [q2 n i e]; simp) hBA hone hfi hBB
        (Yg.of_okV k6 e1) ?_ k5
      exact ⟨D.1, fun G w a S hv Kc Q hK hX => D.2 G w a S hv Kc Q (fun r h' G' u w' hr => hK r h' G' u w' ⟨Yg.of_okV k6 hr.1, lvc_ok _ _ _ hr.2⟩) hX⟩) _ _ _ (lvc_ok _ _ _ H))
  rw [hlen] at hany
  have := AAny.wp _ _ _ _ hany G G w.drew a a.defers (Gle.refl G) S.drew R rfl
  simpa using this
/-- such a region, and what is behind it -/
theorem AWp.dsL0 {id : Nat} {l : List Oper} {y : Code} {Q : AQ} {sl : List AV} {h : AH} (ord1 : List Nat) (i c : Nat) (ord2 : List Nat) {oi oc : Oper} (hm : P.follows .mixedOrders = true) (hB : ordOkL0 l ord1 i c ord2 = true) (hi : l[i]? = some oi) (hc : l[c]? = some oc)
    (H : ∀ K : List AV → AH → Prop, (∀ s h, AWp P T y Q s h → K s h) → lvc P T false l.toArray (pick l ord1) sl h (fun s1 h1 => ∃ v, okV (opP P oi.op (ev T s1) h1) v ∧
      DW P T false l.toArray [oc] (putA oi.dst v s1) h1 (fun s2 h2 => okV (opP P oi.op (ev T s1) h2) v ∧ lvc P T false l.toArray (pick l ord2) s2 h2 K (fun p h => ∀ s, Q (.pan p) s h)) (fun p h => ∀ s, Q (.pan p) s h)) (fun p h => ∀ s, Q (.pan p) s h)) :
    AWp P T (.seq (.region id l.toArray true) y) Q sl h :=
  AWp.seq fun K hK => AWp.drawL0 ord1 i c ord2 hm hB hi hc (H K hK)
/-- a call on an empty heap that returns is pure -/
theorem PCall.of_ac {f : FuncId} {args : List AV} {r0 r : AV} (H : ACalls P T f args ⟨[], []⟩ (fun x _ => x = .ret r0)) (hle : LeA false r0 r) : PCall P T f args r := by
  intro F w vs hF hT Rs
  have S : Sim T (gh0 w F) ⟨[], []⟩ w := ⟨Below.refl _ _, hT, hF, fun _ _ => rfl, by simp, by simp, by simp, by simp, by simp, by simp⟩
  refine (H (gh0 w F) w vs S Rs).mono ?_
  rintro e w' ⟨x, h', G', rfl, hG, S', v, rfl, hv⟩
  refine ⟨v, G'.frz, rfl, ?_, hG.frz, hG.new, S'.frz, ?_⟩
  · have := S'.below; rw [hG.base] at this; exact this
  · have := LeA.ok r0 r v hle hv
    exact this.mono2 (G := G'.keepT false) (G' := gh0 w G'.frz) (fun _ _ _ e => e) (fun t x e => by simp [Gh.keepT] at e)
theorem PC.of_ac {f : FuncId} {args : List AV} {r0 r : AV} (H : AC P T f args ⟨[], []⟩ (fun x _ => x = .ret r0)) (hle : LeA false r0 r) : PC P T f args r := ⟨H.call, PCall.of_ac H.run hle⟩
end
end Go.Proofs.YtddiolgeaefieaaDoor

namespace Go.Proofs.YtddiolgeaefieaaDoor
open Go.RowKit
set_option linter.unusedSimpArgs false
set_option linter.unusedVariables false
section
variable {P : Program} {T : Tbl} {G : Gh} {f : FuncId}
/-- a call that writes nothing that was there, and whose result holds no memory -/
theorem PC.old {args : List AV} {r : AV} (hcall : ∀ az w, (callFunc f az).run P w = .ok (.enter f az) w)
    (H : ∀ (F : Frz) (w : World) (vs : Array Value), (∀ b o u, F b o = some u → w.cell? ⟨b, o, none⟩ = some u) → (∀ g j x, (T g)[j]? = some x → ∃ u, F g j = some u ∧ VD F x u) → SlR (gh0 w F) args vs → Calls P f vs w fun e w' => ∃ v, e = .returned v ∧ Below w.heap.size w w' ∧ VR (gh0 w F) r v) : PC P T f args r := by
  refine ⟨hcall, fun F w vs hF hT R => (H F w vs hF hT R).mono ?_⟩
  rintro e w' ⟨v, rfl, hb, hv⟩
  refine ⟨v, F, rfl, hb, fun _ _ _ e => e, fun _ _ _ e => .inl e, fun b o u e => ?_, hv⟩
  have h1 := hF b o u e
  have hlt : b < w.heap.size := World.block_lt_of_cell? (w := w) (a := ⟨b, o, none⟩) h1
  rw [← h1]
  exact World.cell?_of_block (w := w) (a := ⟨b, o, none⟩) (hb.block b hlt)
theorem slr1 {a : AV} {vs : Array Value} (R : SlR G [a] vs) : ∃ v, vs = #[v] ∧ VR G a v := by
  obtain ⟨h1, h2⟩ := R
  obtain ⟨v, h3, h4⟩ := h2 0 a rfl
  refine ⟨v, ?_, h4⟩
  apply Array.ext_getElem?
  intro i
  cases i with
  | zero => simpa using h3
  | succ i => rw [Array.getElem?_eq_none (by rw [h1]; simp), Array.getElem?_eq_none (by simp)]
theorem slr2 {a b : AV} {vs : Array Value} (R : SlR G [a, b] vs) : ∃ v u, vs = #[v, u] ∧ VR G a v ∧ VR G b u := by
  obtain ⟨h1, h2⟩ := R
  obtain ⟨v, h3, h4⟩ := h2 0 a rfl
  obtain ⟨u, h5, h6⟩ := h2 1 b rfl
  refine ⟨v, u, ?_, h4, h6⟩
  apply Array.ext_getElem?
  intro i
  match i with
  | 0 => simpa using h3
  | 1 => simpa using h5
  | i + 2 => rw [Array.getElem?_eq_none (by rw [h1]; simp), Array.getElem?_eq_none (by simp)]
theorem slr3 {a b c : AV} {vs : Array Value} (R : SlR G [a, b, c] vs) : ∃ v u x, vs = #[v, u, x] ∧ VR G a v ∧ VR G b u ∧ VR G c x := by
  obtain ⟨h1, h2⟩ := R
  obtain ⟨v, h3, h4⟩ := h2 0 a rfl
  obtain ⟨u, h5, h6⟩ := h2 1 b rfl
  obtain ⟨x, h7, h8⟩ := h2 2 c rfl
  refine ⟨v, u, x, ?_, h4, h6, h8⟩
  apply Array.ext_getElem?
  intro i
  match i with
  | 0 => simpa using h3
  | 1 => simpa using h5
  | 2 => simpa using h7
  | i + 3 => rw [Array.getElem?_eq_none (by rw [h1]; simp), Array.getElem?_eq_none (by simp)]
theorem VR.agg_inv {l : List AV} {v : Value} (h : VR G (.agg l) v) : ∃ vs : Array Value, v = .agg vs ∧ SlR G l vs := by
  cases h with
  | agg _ vs hl h =>
    refine ⟨vs.toArray, rfl, by simpa using hl, fun i a e => ?_⟩
    have hi : i < vs.length := by rw [hl]; exact (List.getElem?_eq_some_iff.1 e).1
    exact ⟨vs[i], by simp [hi], h i a _ e (List.getElem?_eq_getElem hi)⟩
/-- the values of tables' first cells -/
theorem tbl_cell {F : Frz} {w : World} {g j : Nat} {x : D} (hF : ∀ b o u, F b o = some u → w.cell? ⟨b, o, none⟩ = some u) (hT : ∀ g j x, (T g)[j]? = some x → ∃ u, F g j = some u ∧ VD F x u) (h : (T g)[j]? = some x) : ∃ u, w.cell? ⟨g, j, none⟩ = some u ∧ VD F x u := by
  obtain ⟨u, h1, h2⟩ := hT g j x h
  exact ⟨u, hF _ _ _ h1, h2⟩
end
end Go.Proofs.YtddiolgeaefieaaDoor

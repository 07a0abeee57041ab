/- Rows of the call's own, cell by cell: made by make, written in place. -/
import Derived.Test.YtdofgjpgppaghaaMem
import Derived.Laws.MakeOwn
import Derived.OwnWalk
namespace Go.Proofs.Ytdofgjpgppaghaa
open Go.RowKit
set_option linter.unusedSimpArgs false
set_option linter.unusedVariables false
/-- n cells of block b from 0 on read f, and may be written -/
def Arr (w : World) (b n : Nat) (f : Nat → Value) : Prop := ∀ j, j < n → w.cell? ⟨b, j, none⟩ = some (f j) ∧ w.frozen? ⟨b, j, none⟩ = false
theorem Arr.cell {w : World} {b n : Nat} {f : Nat → Value} (h : Arr w b n f) {j : Nat} (hj : j < n) : w.cell? ⟨b, j, none⟩ = some (f j) := (h j hj).1
theorem Arr.free {w : World} {b n : Nat} {f : Nat → Value} (h : Arr w b n f) {j : Nat} (hj : j < n) : w.frozen? ⟨b, j, none⟩ = false := (h j hj).2
theorem Arr.below {w w' : World} {b n B : Nat} {f : Nat → Value} (h : Arr w b n f) (hb : Below B w w') (hB : b < B) : Arr w' b n f :=
  fun j hj => ⟨(hb.cell (p := ⟨b, j, none⟩) hB).trans (h j hj).1, (hb.frozen (p := ⟨b, j, none⟩) hB).trans (h j hj).2⟩
theorem Arr.drewN {w : World} {b n : Nat} {f : Nat → Value} (h : Arr w b n f) (d : Nat) : Arr (w.drewN d) b n f := h
theorem Arr.other {w : World} {b n : Nat} {f : Nat → Value} (h : Arr w b n f) {p : Addr} (hp : p.block ≠ b) (v : Value) : Arr (w.setCell p v) b n f := fun j hj => by
  refine ⟨?_, by rw [World.frozen?_setCell]; exact (h j hj).2⟩
  rw [World.cell?_setCell_other _ _ _ _ (by intro e; apply hp; rw [e])]
  exact (h j hj).1
theorem Arr.set {w : World} {b n i : Nat} {f g : Nat → Value} (h : Arr w b n f) (hi : i < n) (v : Value) (hv : g i = v) (ho : ∀ j, j < n → j ≠ i → g j = f j) : Arr (w.setCell ⟨b, i, none⟩ v) b n g := fun j hj => by
  refine ⟨?_, by rw [World.frozen?_setCell]; exact (h j hj).2⟩
  by_cases e : j = i
  · subst e
    rw [World.cell?_setCell_same _ _ _ (h j hj).1, hv]
  · rw [World.cell?_setCell_other _ _ _ _ (by intro h; injection h; omega), (h j hj).1, ho j hj e]
theorem Arr.congr {w : World} {b n : Nat} {f g : Nat → Value} (h : Arr w b n f) (hg : ∀ j, j < n → g j = f j) : Arr w b n g := fun j hj => by rw [hg j hj]; exact h j hj
theorem Arr.alloc {w : World} {b n : Nat} {f : Nat → Value} (h : Arr w b n f) (hb : b < w.heap.size) (o : Obj) : Arr (w.alloc o) b n f := h.below (Below.alloc (Below.refl _ _) (Nat.le_refl _) o) hb
/-- 'make([]T, n)', T of one cell -/
theorem wpList_make_arr {P : Program} {ops : Array Oper} {rest : List Oper} {o : Oper} {a : Act} {Q : Exit → Act → World → Prop} {w : World} (hgd : Region.wanted o (yielded ops a.tmps) = true) (l c : Operand) (t e : TypeId) (bytes : Nat) (z : Value)
    (hop : o.op = Op.makeSlice t l c) (ht : P.underlying t = some (.slice e)) (hi : (P.info? e).map (fun i => (i.zero, i.size, i.bytes)) = some (some z, 1, bytes)) (hz : z.cells = #[z])
    {L C : Int} {n : Nat} (hl : a.eval l = .int .i64 L) (hc : a.eval c = .int .i64 C) (hL : L = (n : Int)) (hC : C = (n : Int)) (hb : bytes * n ≤ 281474976710656) (hm : n ≤ maxLen)
    (k : ∀ w', Arr w' w.heap.size n (fun _ => z) → Below w.heap.size w w' → w'.heap.size = w.heap.size + 1 → wpList P ops Q rest (a.put o.dst (.slice (some ⟨w.heap.size, 0, none⟩) n n)) w') : wpList P ops Q (o :: rest) a w :=
  wpList_by hgd fun _ hK => by
    obtain ⟨i, hi1, hi2⟩ := Option.map_eq_some_iff.1 hi
    simp only [Prod.mk.injEq] at hi2
    obtain ⟨h1, h2, h3⟩ := hi2
    subst hL hC
    have h4 : ((bytes * n : Nat) : Int) ≤ 281474976710656 := by omega
    have h5 : (i.bytes : Int) * (n : Int) ≤ 281474976710656 := by rw [h3]; rwa [Int.natCast_mul] at h4
    have hr := run_make (P := P) w t e i z ht hi1 h1 .i64 .i64 n n (by omega) (Int.le_refl _) h5 (by unfold maxLen at hm; omega)
    simp only [Int.toNat_natCast, h2, Nat.mul_one] at hr
    unfold Oper.wp execOp
    simp only [hop, hl, hc, Sem.run_bind, hr, Result.andThen_ok]
    refine hK _ _ (k _ ?_ (Below.alloc (Below.refl _ _) (Nat.le_refl _) _) (by simp))
    intro j hj
    have hh : (w.alloc (.cells (madeCells z.cells n) e)).heap[w.heap.size]? = some (.cells (madeCells z.cells n) e (0, 0)) := heap_alloc_new w _
    refine ⟨?_, ?_⟩
    · rw [cell_of_row _ _ _ _ e (0, 0) hh]
      rw [hz]
      simp [madeCells, hj, Nat.mod_one]
    · unfold World.frozen?
      dsimp only
      rw [hh]
      simp
end Go.Proofs.Ytdofgjpgppaghaa

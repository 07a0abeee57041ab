/- Slices of texts: their copies, Flags. -/
import Derived.Test.YtddiolgeaefieaaDoorFlat
import Derived.Test.YtddiolgeaefieaaDoorStr
import Derived.Test.YtddiolgeaefieaaDoorOpenF
namespace Go.Proofs.YtddiolgeaefieaaDoor
open Go.RowKit
set_option linter.unusedSimpArgs false
set_option linter.unusedVariables false
open Go.ChangeShapes Go.WideShapes Go.ChangeAt
def strF : Flat ByteArray := ⟨1, fun s => [.string s], fun _ => rfl, fun x u hu => by
  rw [List.mem_singleton] at hu
  subst hu
  rfl, by decide⟩
theorem el_str : Elem Tryd.prog 117 9 strF.k 16 := ⟨Tryd.underlying117, by kernel_rfl, by decide⟩
theorem str_cell {w : World} {D : Nat → Prop} {A : Option Addr} {n c : Nat} {l : List ByteArray} (h : RF strF w D (.slice A n c) l) {i : Nat} (hi : i < n) :
    ∃ b off x, A = some ⟨b, off, none⟩ ∧ D b ∧ l[i]? = some x ∧ w.cell? ⟨b, off + i, none⟩ = some (.string x) := by
  obtain ⟨b, off, x, e, hb, hx, hc⟩ := h.at_ hi
  refine ⟨b, off, x, e, hb, hx, ?_⟩
  have := hc 0 _ rfl
  simpa [strF] using this

theorem trod_strs {H : Type} {enc : TypeId × Value → H} {W : World} {fuel : Nat} {v : Value} {y : DataW H × List MemPlace} (h : DataW.trod enc Tryd.prog W 0 (fun _ => true) true fuel 117 [v] = some y) (hs : Small Tryd.prog 117 y.1) :
    ∃ l : List ByteArray, RF strF W (· < W.heap.size) v l ∧ l.length * 16 ≤ 140737488355328 ∧ ∀ s ∈ l, s.size ≤ 140737488355328 :=
  open_flat (B := 16) (OK := fun s : ByteArray => s.size ≤ 140737488355328) strF Tryd.underlying117 (by kernel_rfl) (by kernel_rfl) (fun fuel cs x h hs => by
    obtain ⟨s, e1, hx, _⟩ := DataW.trod_string Tryd.underlying9 h
    rw [hx] at hs
    have := Small.text hs
    refine ⟨s, e1, ?_⟩
    rw [Lib.size_eq]
    exact this) h hs
end Go.Proofs.YtddiolgeaefieaaDoor

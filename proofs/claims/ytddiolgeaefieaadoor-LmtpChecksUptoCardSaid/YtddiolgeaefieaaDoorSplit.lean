/- Slices of texts as arguments; strings.Split at a dot. -/
import Derived.Test.YtddiolgeaefieaaDoorStrs
import Derived.Test.YtddiolgeaefieaaDoorWho0
import Derived.Test.YtddiolgeaefieaaDoorLib0
namespace Go.Proofs.YtddiolgeaefieaaDoor
open Go.RowKit
set_option linter.unusedSimpArgs false
set_option linter.unusedVariables false
theorem RF.of_row {w : World} {g : Nat} {l : List ByteArray} {e : TypeId} {fr : Nat × Nat} (h : w.heap[g]? = some (.cells (l.map Value.string).toArray e fr)) (n : Nat) (hn : l.length = n) (hm : n ≤ maxLen) :
    RF strF w (· < w.heap.size) (.slice (some ⟨g, 0, none⟩) n n) l := by
  have e' : l.flatMap strF.enc = l.map Value.string := by
    clear h hn
    induction l with
    | nil => rfl
    | cons z r ih => simp only [List.map_cons, List.flatMap_cons, ih]; rfl
  refine ⟨some ⟨g, 0, none⟩, n, by simp [hn], by simp [hn], hm, by simp, ?_, fun _ => ⟨g, 0, rfl, (Array.getElem?_eq_some_iff.1 h).1, fun j u hu => ?_⟩⟩
  · rw [e']
    simp [strF]
  · rw [e'] at hu
    rw [Nat.zero_add, cell_of_row _ _ _ _ e fr h]
    simpa using hu
theorem Split_any (s : ByteArray) (w : World) (hs : s.size < 4294967281) (h0 : Lib0 w) :
    Calls Tryd.prog 84 #[.string s, .string dotSep] w fun e w' => ∃ v', e = .returned v' ∧ RF strF w' (· < w'.heap.size) v' (splitL s) ∧ Below w.heap.size w w' := by
  obtain ⟨_, m, hm⟩ := h0
  refine (Tryd.strings_Split s dotSep m w hs hm (by decide)).mono ?_
  rintro e w' ⟨rfl, rfl⟩
  refine ⟨_, rfl, RF.of_row (fr := (0, 0)) (heap_alloc_new w _) _ (splitL_len s) ?_, (Below.refl _ _).alloc (Nat.le_refl _) _⟩
  have := countB_small s
  unfold maxLen
  omega
end Go.Proofs.YtddiolgeaefieaaDoor

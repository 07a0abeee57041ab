/- Data of bounded bulk: the second form's premise, taken apart. -/
import Derived.Test.YtnoboapafndnlaaDoorRow
namespace Go.Proofs.YtnoboapafndnlaaDoor
open Go.RowKit Go.ChangeShapes Go.WideShapes Go.ChangeAt
set_option linter.unusedSimpArgs false
set_option linter.unusedVariables false
section
variable {H : Type}
/-- a datum of bulk at most 1048576 -/
structure Tiny (d : DataW H) : Prop where
  le : Rows.uptoBulk d ≤ 1048576
theorem bulk_mem : ∀ {ds : List (DataW H)} {d : DataW H}, d ∈ ds → Rows.uptoBulk d ≤ Rows.uptoBulkAll ds
  | x :: r, d, h => by
    rw [Rows.uptoBulkAll]
    rcases List.mem_cons.1 h with e | e
    · subst e; omega
    · have := bulk_mem e; omega
theorem bulk_pos (d : DataW H) : 1 ≤ Rows.uptoBulk d := by
  cases d with
  | lit l => cases l <;> simp [Rows.uptoBulk]
  | _ => simp [Rows.uptoBulk]
theorem bulk_len : ∀ ds : List (DataW H), ds.length ≤ Rows.uptoBulkAll ds
  | [] => by simp
  | x :: r => by
    have := bulk_len r
    have := bulk_pos x
    rw [Rows.uptoBulkAll, List.length_cons]
    omega
theorem tinies {ds : List (DataW H)} (h : Rows.uptoSmall H ds = true) (j : Nat) (d : DataW H) (hd : ds[j]? = some d) : Tiny d := by
  have h' : Rows.uptoBulkAll ds ≤ 1048576 := of_decide_eq_true h
  exact ⟨Nat.le_trans (bulk_mem (List.mem_of_getElem? hd)) h'⟩
theorem Tiny.part {ds : List (DataW H)} (h : Tiny (.agg ds)) {j : Nat} {d : DataW H} (hd : ds[j]? = some d) : Tiny d := by
  have h := h.le
  rw [Rows.uptoBulk] at h
  constructor
  have := bulk_mem (List.mem_of_getElem? hd)
  omega
theorem Tiny.elem {elems spare : List (DataW H)} (h : Tiny (.slice elems spare)) {d : DataW H} (hd : d ∈ elems) : Tiny d := by
  have h := h.le
  rw [Rows.uptoBulk] at h
  constructor
  have := bulk_mem hd
  omega
theorem Tiny.len {elems spare : List (DataW H)} (h : Tiny (.slice elems spare)) : elems.length ≤ 1048576 := by
  have h := h.le
  rw [Rows.uptoBulk] at h
  have := bulk_len elems
  omega
theorem Tiny.text {l : List UInt8} (h : Tiny (.lit (.string l) : DataW H)) : l.length ≤ 1048576 := by
  have h := h.le
  rw [Rows.uptoBulk] at h
  omega
end
end Go.Proofs.YtnoboapafndnlaaDoor

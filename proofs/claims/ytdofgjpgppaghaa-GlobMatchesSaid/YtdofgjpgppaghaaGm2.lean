/- The reference's fits: row by row. -/
import Derived.Test.YtdofgjpgppaghaaGm1
import Derived.Test.YtdofgjpgppaghaaArr
namespace Go.Proofs.Ytdofgjpgppaghaa
open Go.RowKit
set_option linter.unusedSimpArgs false
set_option linter.unusedVariables false
/-- the next row -/
def rowNext (x : Pc) (s : List UInt8) (f : Nat → Bool) : Nat → Bool
  | 0 => x.many && f 0
  | j + 1 => if x.many then f (j + 1) || rowNext x s f j else f j && (match s[j]? with | some b => x.hit b | none => false)
def RowOk (l : List Pc) (s : List UInt8) (f : Nat → Bool) : Prop := ∀ j, j ≤ s.length → (f j = true ↔ PM l (s.take j))
theorem RowOk.start (s : List UInt8) : RowOk [] s (fun j => decide (j = 0)) := fun j hj => by
  rw [PM_nil]
  constructor
  · intro h
    have : j = 0 := by simpa using h
    subst this; rfl
  · intro h
    have := congrArg List.length h
    rw [List.length_take, List.length_nil] at this
    have : j = 0 := by omega
    simp [this]
theorem RowOk.next {l : List Pc} {s : List UInt8} {f : Nat → Bool} (h : RowOk l s f) (x : Pc) : RowOk (l ++ [x]) s (rowNext x s f) := by
  intro j
  induction j with
  | zero =>
    intro _
    have h0 := h 0 (by omega)
    rw [List.take_zero] at h0 ⊢
    cases hm : x.many with
    | true =>
      rw [PM_snoc_many hm]
      simp only [rowNext, hm, Bool.true_and, h0]
      constructor
      · intro hp; exact ⟨0, by omega, by simpa using hp⟩
      · rintro ⟨n, hn, hp⟩; simpa using hp
    | false =>
      simp only [rowNext, hm, Bool.false_and]
      constructor
      · intro hp; cases hp
      · intro hp; exact absurd hp (PM_snoc_nil hm l)
  | succ j ih =>
    intro hj
    have ih := ih (by omega)
    have hb : s[j]? = some s[j] := List.getElem?_eq_getElem (by omega)
    cases hm : x.many with
    | true =>
      rw [PM_snoc_many hm] at ih ⊢
      simp only [rowNext, hm, if_true, Bool.or_eq_true, ih, h (j + 1) hj]
      constructor
      · rintro (hp | ⟨n, hn, hp⟩)
        · exact ⟨(s.take (j + 1)).length, Nat.le_refl _, by rw [List.take_of_length_le (Nat.le_refl _)]; exact hp⟩
        · rw [List.length_take] at hn
          refine ⟨n, by rw [List.length_take]; omega, ?_⟩
          rw [List.take_take] at hp ⊢
          rw [show min n (j + 1) = n by omega]
          rw [show min n j = n by omega] at hp
          exact hp
      · rintro ⟨n, hn, hp⟩
        rw [List.length_take] at hn
        by_cases e : n = j + 1
        · left
          rw [e, List.take_take, Nat.min_self] at hp
          exact hp
        · right
          refine ⟨n, by rw [List.length_take]; omega, ?_⟩
          rw [List.take_take] at hp ⊢
          rw [show min n j = n by omega]
          rw [show min n (j + 1) = n by omega] at hp
          exact hp
    | false =>
      rw [List.take_add_one, hb]
      show _ ↔ PM (l ++ [x]) (s.take j ++ [s[j]])
      rw [PM_snoc_one hm]
      have h1 := h j (by omega)
      simp only [rowNext, hm, hb]
      rw [← h1]
      simp
theorem next_many0 {x : Pc} {s : List UInt8} {f : Nat → Bool} (hm : x.many = true) : rowNext x s f 0 = f 0 := by simp [rowNext, hm]
theorem next_many {x : Pc} {s : List UInt8} {f : Nat → Bool} {i : Nat} (hm : x.many = true) (hi : 0 < i) : rowNext x s f i = (f i || rowNext x s f (i - 1)) := by
  obtain ⟨m, rfl⟩ : ∃ m, i = m + 1 := ⟨i - 1, by omega⟩
  simp [rowNext, hm]
theorem next_one0 {x : Pc} {s : List UInt8} {f : Nat → Bool} (hm : x.many = false) : rowNext x s f 0 = false := by simp [rowNext, hm]
theorem next_one {x : Pc} {s : List UInt8} {f : Nat → Bool} {i : Nat} {b : UInt8} (hm : x.many = false) (hi : 0 < i) (hb : s[i - 1]? = some b) : rowNext x s f i = (f (i - 1) && x.hit b) := by
  obtain ⟨m, rfl⟩ : ∃ m, i = m + 1 := ⟨i - 1, by omega⟩
  simp at hb
  simp [rowNext, hm, hb]
def upB (g : Nat → Bool) (i : Nat) (j : Nat) : Value := .bool (if j < i then g j else false)
def rowB (f : Nat → Bool) (j : Nat) : Value := .bool (f j)
theorem Arr.step {w : World} {b n i : Nat} {g : Nat → Bool} (h : Arr w b n (upB g i)) (hi : i < n) (v : Bool) (hv : g i = v) : Arr (w.setCell ⟨b, i, none⟩ (.bool v)) b n (upB g (i + 1)) :=
  h.set hi _ (by simp [upB, hv]) (fun j hj hne => by
    unfold upB
    by_cases hji : j < i
    · rw [if_pos hji, if_pos (by omega)]
    · rw [if_neg hji, if_neg (by omega)])
theorem Arr.stay {w : World} {b n : Nat} {g : Nat → Bool} (h : Arr w b n (upB g 0)) (hv : g 0 = false) : Arr w b n (upB g (0 + 1)) :=
  h.congr fun j hj => by
    unfold upB
    by_cases e : j = 0
    · subst e; simp [hv]
    · rw [if_neg (by omega), if_neg (by omega)]
theorem Arr.done {w : World} {b n : Nat} {g : Nat → Bool} (h : Arr w b n (upB g n)) : Arr w b n (rowB g) := h.congr fun j hj => by unfold upB rowB; rw [if_pos hj]
theorem Arr.fresh {w : World} {b n : Nat} (h : Arr w b n (fun _ => .bool false)) (g : Nat → Bool) : Arr w b n (upB g 0) := h.congr fun j hj => by unfold upB; rw [if_neg (by omega)]
theorem info_bool : (Try.prog.info? 4).map (fun i => (i.zero, i.size, i.bytes)) = some (some (.bool false), 1, 1) := by kernel_rfl
def FitPost (s p : ByteArray) (w : World) (e : Ending) (w' : World) : Prop := ∃ b, e = .returned (.bool b) ∧ (b = true ↔ PM (piecesOf (bs p)) (bs s)) ∧ Below w.heap.size w w'
end Go.Proofs.Ytdofgjpgppaghaa

/- The reference's inside: is a text somewhere in another one? -/
import Derived.Test.YtdofgjpgppaghaaGm1
import Derived.Lib.Index
import Derived.Lib.IndexMore
namespace Go.Proofs.Ytdofgjpgppaghaa
open Go.RowKit
set_option linter.unusedSimpArgs false
set_option linter.unusedVariables false
/-- p stands in s at a place -/
def AtIn (s p : ByteArray) (i : Nat) : Prop := i + p.size ≤ s.size ∧ s.extract i (i + p.size) = p
set_option maxRecDepth 20000 in
theorem inside_any (s p : ByteArray) (w : World) (hs : s.size ≤ 1000000) (hp : p.size ≤ 1000000) :
    Calls Try.prog 62 #[.string s, .string p] w (Told (∃ i, AtIn s p i) w) := by
  go_enter Try.func62, Try.ntmps62
  go_wp2_with fail
  go_loop [5] (fun vi => ∃ i : Nat, i ≤ s.size + 1 ∧ vi = .int .i64 i ∧ ∀ j, j < i → ¬ AtIn s p j) (fun vi => s.size + 1 - (intOf vi).toNat)
  case atStart => exact ⟨0, by omega, rfl, fun j hj => by omega⟩
  case round =>
    obtain ⟨i, hi, rfl, hn⟩ := hrel
    have HN := Lib.hid hn
    clear hn
    by_cases hle : i + p.size ≤ s.size
    · have q1 : (i : Int) + p.size ≤ s.size := by omega
      by_cases he : s.extract i (i + p.size) = p
      · have HE : Hid (∃ i, AtIn s p i) := Lib.hid ⟨i, hle, he⟩
        have q2 : ((s.extract i (i + p.size)).toList == p.toList) = true := by rw [he]; simp
        clear he
        go_wp2_with fail
        go_ret
        exact Told.yes HE.out _ 0
      · have HE := Lib.hid he
        have q2 := text_ne he
        clear he
        go_wp2_with fail
        go_round
        case rel =>
          refine ⟨i + 1, by omega, by go_num, fun j hj => ?_⟩
          by_cases e : j = i
          · subst e
            exact fun h => HE.out h.2
          · exact HN.out j (by omega)
        case measure => simp [intOf]; omega
    · have q1 : ¬ ((i : Int) + p.size ≤ s.size) := by omega
      have HE : Hid (¬ ∃ i, AtIn s p i) := Lib.hid (by
        rintro ⟨j, hj⟩
        by_cases e : j < i
        · exact HN.out j e hj
        · have := hj.1; omega)
      go_wp2_with fail
      go_ret
      exact Told.no HE.out _ 0
theorem AtIn_iff (s p : ByteArray) (i : Nat) : AtIn s p i ↔ i + p.size ≤ s.size ∧ Lib.occAt (bs s) (bs p) i = true := by
  unfold AtIn
  constructor
  · rintro ⟨h1, h2⟩
    refine ⟨h1, ?_⟩
    rw [Lib.occAt_iff_take _ _ _ (by rw [bs_len, bs_len]; exact h1), beq_iff_eq, bs_len]
    have := congrArg bs h2
    unfold bs at this ⊢
    rw [Lib.extract_data] at this
    rw [show i + p.size - i = p.size by omega] at this
    exact this
  · rintro ⟨h1, h2⟩
    refine ⟨h1, ?_⟩
    rw [Lib.occAt_iff_take _ _ _ (by rw [bs_len, bs_len]; exact h1), beq_iff_eq, bs_len] at h2
    apply bs_inj
    unfold bs at h2 ⊢
    rw [Lib.extract_data]
    rw [show i + p.size - i = p.size by omega]
    exact h2
theorem contains_iff (s p : ByteArray) : Lib.contains (bs s) (bs p) = true ↔ ∃ i, AtIn s p i := by
  unfold Lib.contains
  rw [decide_eq_true_eq]
  rcases Lib.index_spec (bs s) (bs p) with ⟨h1, h2⟩ | ⟨i, h1, h2, h3, _⟩
  · rw [h1]
    refine ⟨fun h => by omega, ?_⟩
    rintro ⟨j, hj⟩
    obtain ⟨h4, h5⟩ := (AtIn_iff s p j).1 hj
    rw [h2 j (by rw [bs_len]; omega)] at h5
    cases h5
  · refine ⟨fun _ => ⟨i, (AtIn_iff s p i).2 ⟨?_, h3⟩⟩, fun _ => by omega⟩
    rcases Lib.occAt_room h3 with h | h
    · rw [bs_len, bs_len] at h; exact h
    · have : p.size = 0 := by rw [← bs_len, h]; rfl
      rw [bs_len] at h2
      omega
end Go.Proofs.Ytdofgjpgppaghaa

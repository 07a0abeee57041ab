/- The reference's letters, words; P4.1. -/
import Derived.Test.YtdofgjpgppaghaaTok0
namespace Go.Proofs.Ytdofgjpgppaghaa
open Go.RowKit
set_option linter.unusedSimpArgs false
set_option linter.unusedVariables false
def markB (c : UInt8) : Bool := c.toNat == 123 || c.toNat == 125 || c.toNat == 40 || c.toNat == 41 || c.toNat == 91 || c.toNat == 93 || c.toNat == 59 || c.toNat == 44
theorem digitByte_any (c : UInt8) (w : World) : Calls Try.prog 60 #[.int .u8 c.toNat] w fun e w' => e = .returned (.bool (digitB c)) ∧ w = w' := by
  have hu : (c.toNat : Int) < 256 := by have := c.toNat_lt; omega
  have HL := Lib.hid (show digitB c = (decide (48 ≤ (c.toNat : Int)) && decide ((c.toNat : Int) ≤ 57)) by unfold digitB; rw [Bool.eq_iff_iff]; simp; omega)
  go_enter Try.func60, Try.ntmps60
  go_wp2_with (go_at_call 32; refine (In_any _ _ _ _).mono ?_; rintro e w' ⟨rfl, rfl⟩)
  go_ret
  exact ⟨by rw [HL.out]; rfl, rfl⟩

set_option maxRecDepth 20000 in
theorem letterByte_any (c : UInt8) (w : World) : Calls Try.prog 47 #[.int .u8 c.toNat] w fun e w' => e = .returned (.bool (letterB c)) ∧ w = w' := by
  have hu : (c.toNat : Int) < 256 := by have := c.toNat_lt; omega
  have hc : (c.toNat : Int) < 65 ∨ (65 ≤ (c.toNat : Int) ∧ (c.toNat : Int) ≤ 90) ∨ (91 ≤ (c.toNat : Int) ∧ (c.toNat : Int) < 95) ∨ (c.toNat : Int) = 95 ∨ (c.toNat : Int) = 96 ∨ (97 ≤ (c.toNat : Int) ∧ (c.toNat : Int) ≤ 122) ∨ 122 < (c.toNat : Int) := by omega
  have hne : (c.toNat : Int) = 95 ∨ ((c.toNat : Int) == 95) = false := ne_or c 95
  have hcase : ((c.toNat : Int) < 65 ∧ ((c.toNat : Int) == 95) = false) ∨ (65 ≤ (c.toNat : Int) ∧ (c.toNat : Int) ≤ 90) ∨ (91 ≤ (c.toNat : Int) ∧ (c.toNat : Int) ≤ 96 ∧ ((c.toNat : Int) == 95) = false) ∨ (c.toNat : Int) = 95 ∨ (97 ≤ (c.toNat : Int) ∧ (c.toNat : Int) ≤ 122) ∨ (122 < (c.toNat : Int) ∧ ((c.toNat : Int) == 95) = false) := by
    rcases hne with h | h
    · exact .inr (.inr (.inr (.inl h)))
    · have h' : (c.toNat : Int) ≠ 95 := by simpa using h
      by_cases h1 : (c.toNat : Int) < 65
      · exact .inl ⟨h1, h⟩
      · by_cases h2 : (c.toNat : Int) ≤ 90
        · exact .inr (.inl ⟨by omega, h2⟩)
        · by_cases h3 : (c.toNat : Int) ≤ 96
          · exact .inr (.inr (.inl ⟨by omega, h3, h⟩))
          · by_cases h4 : (c.toNat : Int) ≤ 122
            · exact .inr (.inr (.inr (.inr (.inl ⟨by omega, h4⟩))))
            · exact .inr (.inr (.inr (.inr (.inr ⟨by omega, h⟩))))
  clear hne hc
  rcases hcase with ⟨h, h'⟩ | ⟨h, h'⟩ | ⟨h, h', h''⟩ | h | ⟨h, h'⟩ | ⟨h, h'⟩
  · have HB := Lib.hid (letterB_false c (by omega))
    go_enter Try.func47, Try.ntmps47
    go_wp2_with (go_at_call 32; first | (refine (In_yes _ _ _ _ ?_ ?_).mono ?_; omega; omega; rintro e w' ⟨rfl, rfl⟩) | (refine (In_no _ _ _ _ ?_).mono ?_; omega; rintro e w' ⟨rfl, rfl⟩))
    go_ret
    exact ⟨by rw [HB.out]; first | rfl | (simp; omega), rfl⟩
  · have HB := Lib.hid (letterB_true c (by omega))
    go_enter Try.func47, Try.ntmps47
    go_wp2_with (go_at_call 32; first | (refine (In_yes _ _ _ _ ?_ ?_).mono ?_; omega; omega; rintro e w' ⟨rfl, rfl⟩) | (refine (In_no _ _ _ _ ?_).mono ?_; omega; rintro e w' ⟨rfl, rfl⟩))
    go_ret
    exact ⟨by rw [HB.out]; first | rfl | (simp; omega), rfl⟩
  · have hn : (c.toNat : Int) ≠ 95 := by simpa using h''
    have HB := Lib.hid (letterB_false c (by omega))
    clear hn
    go_enter Try.func47, Try.ntmps47
    go_wp2_with (go_at_call 32; first | (refine (In_yes _ _ _ _ ?_ ?_).mono ?_; omega; omega; rintro e w' ⟨rfl, rfl⟩) | (refine (In_no _ _ _ _ ?_).mono ?_; omega; rintro e w' ⟨rfl, rfl⟩))
    go_ret
    exact ⟨by rw [HB.out]; first | rfl | (simp; omega), rfl⟩
  · have HB := Lib.hid (letterB_true c (by omega))
    go_enter Try.func47, Try.ntmps47
    go_wp2_with (go_at_call 32; first | (refine (In_yes _ _ _ _ ?_ ?_).mono ?_; omega; omega; rintro e w' ⟨rfl, rfl⟩) | (refine (In_no _ _ _ _ ?_).mono ?_; omega; rintro e w' ⟨rfl, rfl⟩))
    go_ret
    exact ⟨by rw [HB.out]; first | rfl | (simp; omega), rfl⟩
  · have HB := Lib.hid (letterB_true c (by omega))
    go_enter Try.func47, Try.ntmps47
    go_wp2_with (go_at_call 32; first | (refine (In_yes _ _ _ _ ?_ ?_).mono ?_; omega; omega; rintro e w' ⟨rfl, rfl⟩) | (refine (In_no _ _ _ _ ?_).mono ?_; omega; rintro e w' ⟨rfl, rfl⟩))
    go_ret
    exact ⟨by rw [HB.out]; first | rfl | (simp; omega), rfl⟩
  · have HB := Lib.hid (letterB_false c (by omega))
    go_enter Try.func47, Try.ntmps47
    go_wp2_with (go_at_call 32; first | (refine (In_yes _ _ _ _ ?_ ?_).mono ?_; omega; omega; rintro e w' ⟨rfl, rfl⟩) | (refine (In_no _ _ _ _ ?_).mono ?_; omega; rintro e w' ⟨rfl, rfl⟩))
    go_ret
    exact ⟨by rw [HB.out]; first | rfl | (simp; omega), rfl⟩
set_option maxRecDepth 20000 in
theorem markByte_any (c : UInt8) (w : World) : Calls Try.prog 46 #[.int .u8 c.toNat] w fun e w' => e = .returned (.bool (markB c)) ∧ w = w' := by
  have HL := Lib.hid (show markB c = (((c.toNat : Int) == 123) || ((c.toNat : Int) == 125) || ((c.toNat : Int) == 40) || ((c.toNat : Int) == 41) || ((c.toNat : Int) == 91) || ((c.toNat : Int) == 93) || ((c.toNat : Int) == 59) || ((c.toNat : Int) == 44)) by
    unfold markB; rw [Bool.eq_iff_iff]; simp; omega)
  have hc : ∀ n : Int, ((c.toNat : Int) = n) ∨ ((c.toNat : Int) == n) = false := fun n => by
    by_cases h : (c.toNat : Int) = n
    · exact .inl h
    · exact .inr (by simpa using h)
  have HC := Lib.hid hc
  clear hc
  rcases HC.out 123 with h1 | h1
  · go_enter Try.func46, Try.ntmps46
    go_wp2
    go_ret
    exact ⟨by rw [HL.out]; simp [h1], rfl⟩
  rcases HC.out 125 with h2 | h2
  · go_enter Try.func46, Try.ntmps46
    go_wp2
    go_ret
    exact ⟨by rw [HL.out]; simp [h2], rfl⟩
  rcases HC.out 40 with h3 | h3
  · go_enter Try.func46, Try.ntmps46
    go_wp2
    go_ret
    exact ⟨by rw [HL.out]; simp [h3], rfl⟩
  rcases HC.out 41 with h4 | h4
  · go_enter Try.func46, Try.ntmps46
    go_wp2
    go_ret
    exact ⟨by rw [HL.out]; simp [h4], rfl⟩
  rcases HC.out 91 with h5 | h5
  · go_enter Try.func46, Try.ntmps46
    go_wp2
    go_ret
    exact ⟨by rw [HL.out]; simp [h5], rfl⟩
  rcases HC.out 93 with h6 | h6
  · go_enter Try.func46, Try.ntmps46
    go_wp2
    go_ret
    exact ⟨by rw [HL.out]; simp [h6], rfl⟩
  rcases HC.out 59 with h7 | h7
  · go_enter Try.func46, Try.ntmps46
    go_wp2
    go_ret
    exact ⟨by rw [HL.out]; simp [h7], rfl⟩
  rcases HC.out 44 with h8 | h8
  · go_enter Try.func46, Try.ntmps46
    go_wp2
    go_ret
    exact ⟨by rw [HL.out]; simp [h8], rfl⟩
  · go_enter Try.func46, Try.ntmps46
    go_wp2
    go_ret
    exact ⟨by rw [HL.out]; simp only [h1, h2, h3, h4, h5, h6, h7, h8]; rfl, rfl⟩
end Go.Proofs.Ytdofgjpgppaghaa

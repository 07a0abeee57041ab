/- Letters, digits, and the cutter's reading: P4.1. -/
import Derived.Test.YtdofgjpgppaghaaStr
import Derived.Test.YtdofgjpgppaghaaMem
import Derived.Test.YtdofgjpgppaghaaRule
namespace Go.Proofs.Ytdofgjpgppaghaa
open Go.RowKit
set_option linter.unusedSimpArgs false
set_option linter.unusedVariables false
def letterB (c : UInt8) : Bool := (97 ≤ c.toNat && c.toNat ≤ 122) || (65 ≤ c.toNat && c.toNat ≤ 90) || c.toNat == 95
def digitB (c : UInt8) : Bool := 48 ≤ c.toNat && c.toNat ≤ 57
def wordB (c : UInt8) : Bool := letterB c || digitB c

theorem letterB_true (c : UInt8) (h : (97 ≤ (c.toNat : Int) ∧ (c.toNat : Int) ≤ 122) ∨ (65 ≤ (c.toNat : Int) ∧ (c.toNat : Int) ≤ 90) ∨ (c.toNat : Int) = 95) : letterB c = true := by
  unfold letterB; simp; omega
theorem letterB_false (c : UInt8) (h : ¬ ((97 ≤ (c.toNat : Int) ∧ (c.toNat : Int) ≤ 122) ∨ (65 ≤ (c.toNat : Int) ∧ (c.toNat : Int) ≤ 90) ∨ (c.toNat : Int) = 95)) : letterB c = false := by
  cases hl : letterB c
  · rfl
  · exfalso
    unfold letterB at hl
    simp at hl
    omega
theorem digitB_true (c : UInt8) (h : 48 ≤ (c.toNat : Int) ∧ (c.toNat : Int) ≤ 57) : digitB c = true := by unfold digitB; simp; omega
theorem digitB_false (c : UInt8) (h : ¬ (48 ≤ (c.toNat : Int) ∧ (c.toNat : Int) ≤ 57)) : digitB c = false := by
  cases hl : digitB c
  · rfl
  · exfalso
    unfold digitB at hl
    simp at hl
    omega
theorem ne_or (c : UInt8) (n : Nat) : (c.toNat : Int) = n ∨ ((c.toNat : Int) == n) = false := by
  by_cases h : (c.toNat : Int) = n
  · exact .inl h
  · exact .inr (by simpa using h)

set_option maxRecDepth 20000 in
theorem letter_any (c : UInt8) (w : World) : Calls Try.prog 42 #[.int .u8 c.toNat] w fun e w' => e = .returned (.bool (letterB c)) ∧ w = w' := by
  have hu : (c.toNat : Int) < 256 := by have := c.toNat_lt; omega
  have hc : (c.toNat : Int) < 65 ∨ (65 ≤ (c.toNat : Int) ∧ (c.toNat : Int) ≤ 90) ∨ (91 ≤ (c.toNat : Int) ∧ (c.toNat : Int) < 95) ∨ (c.toNat : Int) = 95 ∨ (c.toNat : Int) = 96 ∨ (97 ≤ (c.toNat : Int) ∧ (c.toNat : Int) ≤ 122) ∨ 122 < (c.toNat : Int) := by omega
  have hne : (c.toNat : Int) = 95 ∨ ((c.toNat : Int) == 95) = false := ne_or c 95
  have hcase : ((c.toNat : Int) < 65 ∧ ((c.toNat : Int) == 95) = false) ∨ (65 ≤ (c.toNat : Int) ∧ (c.toNat : Int) ≤ 90) ∨ (91 ≤ (c.toNat : Int) ∧ (c.toNat : Int) ≤ 96 ∧ ((c.toNat : Int) == 95) = false) ∨ (c.toNat : Int) = 95 ∨ (97 ≤ (c.toNat : Int) ∧ (c.toNat : Int) ≤ 122) ∨ (122 < (c.toNat : Int) ∧ ((c.toNat : Int) == 95) = false) := by
    rcases hne with h | h
    · exact .inr (.inr (.inr (.inl h)))
    · have h' : (c.toNat : Int) ≠ 95 := by simpa using h
      by_cases h1 : (c.toNat : Int) < 65
      · exact .inl ⟨h1, h⟩
      · by_cases h2 : (c.toNat : Int) ≤ 90
        · exact .inr (.inl ⟨by omega, h2⟩)
        · by_cases h3 : (c.toNat : Int) ≤ 96
          · exact .inr (.inr (.inl ⟨by omega, h3, h⟩))
          · by_cases h4 : (c.toNat : Int) ≤ 122
            · exact .inr (.inr (.inr (.inr (.inl ⟨by omega, h4⟩))))
            · exact .inr (.inr (.inr (.inr (.inr ⟨by omega, h⟩))))
  clear hne hc
  rcases hcase with ⟨h, h'⟩ | ⟨h, h'⟩ | ⟨h, h', h''⟩ | h | ⟨h, h'⟩ | ⟨h, h'⟩
  · have HB := Lib.hid (letterB_false c (by omega))
    go_enter Try.func42, Try.ntmps42
    go_wp2
    go_ret
    exact ⟨by rw [HB.out]; first | rfl | (simp; omega), rfl⟩
  · have HB := Lib.hid (letterB_true c (by omega))
    go_enter Try.func42, Try.ntmps42
    go_wp2
    go_ret
    exact ⟨by rw [HB.out]; first | rfl | (simp; omega), rfl⟩
  · have hn : (c.toNat : Int) ≠ 95 := by simpa using h''
    have HB := Lib.hid (letterB_false c (by omega))
    clear hn
    go_enter Try.func42, Try.ntmps42
    go_wp2
    go_ret
    exact ⟨by rw [HB.out]; first | rfl | (simp; omega), rfl⟩
  · have HB := Lib.hid (letterB_true c (by omega))
    go_enter Try.func42, Try.ntmps42
    go_wp2
    go_ret
    exact ⟨by rw [HB.out]; first | rfl | (simp; omega), rfl⟩
  · have HB := Lib.hid (letterB_true c (by omega))
    go_enter Try.func42, Try.ntmps42
    go_wp2
    go_ret
    exact ⟨by rw [HB.out]; first | rfl | (simp; omega), rfl⟩
  · have HB := Lib.hid (letterB_false c (by omega))
    go_enter Try.func42, Try.ntmps42
    go_wp2
    go_ret
    exact ⟨by rw [HB.out]; first | rfl | (simp; omega), rfl⟩
set_option maxRecDepth 20000 in
theorem digit_any (c : UInt8) (w : World) : Calls Try.prog 58 #[.int .u8 c.toNat] w fun e w' => e = .returned (.bool (digitB c)) ∧ w = w' := by
  have hu : (c.toNat : Int) < 256 := by have := c.toNat_lt; omega
  have hc : (c.toNat : Int) < 48 ∨ (48 ≤ (c.toNat : Int) ∧ (c.toNat : Int) ≤ 57) ∨ 57 < (c.toNat : Int) := by omega
  rcases hc with h | ⟨h, h'⟩ | h
  · have HB := Lib.hid (digitB_false c (by omega))
    go_enter Try.func58, Try.ntmps58
    go_wp2
    go_ret
    exact ⟨by rw [HB.out]; first | rfl | (simp; omega), rfl⟩
  · have HB := Lib.hid (digitB_true c (by omega))
    go_enter Try.func58, Try.ntmps58
    go_wp2
    go_ret
    exact ⟨by rw [HB.out]; first | rfl | (simp; omega), rfl⟩
  · have HB := Lib.hid (digitB_false c (by omega))
    go_enter Try.func58, Try.ntmps58
    go_wp2
    go_ret
    exact ⟨by rw [HB.out]; first | rfl | (simp; omega), rfl⟩
theorem word1_any (c : UInt8) (w : World) : Calls Try.prog 57 #[.int .u8 c.toNat] w fun e w' => e = .returned (.bool (wordB c)) ∧ w = w' := by
  have HL := Lib.hid (show wordB c = (letterB c || digitB c) from rfl)
  cases hl : letterB c
  · have hl' := (fun w => letter_any c w)
    rw [hl] at hl'
    have H := Lib.hid hl'
    clear hl'
    rw [hl] at HL
    have hd := (fun w => digit_any c w)
    generalize digitB c = d at *
    have HD := Lib.hid hd
    have HH := Lib.hid hl
    clear hd hl
    go_enter Try.func57, Try.ntmps57
    go_wp2_with fail
    refine Calls.mono (H.out _) ?_
    rintro e w' ⟨rfl, rfl⟩
    go_wp2_with fail
    refine Calls.mono (HD.out _) ?_
    rintro e w' ⟨rfl, rfl⟩
    go_wp2_with fail
    go_ret
    exact ⟨by rw [HL.out]; rfl, rfl⟩
  · have hl' := (fun w => letter_any c w)
    rw [hl] at hl'
    have H := Lib.hid hl'
    clear hl'
    rw [hl] at HL
    have HH := Lib.hid hl
    clear hl
    go_enter Try.func57, Try.ntmps57
    go_wp2_with fail
    refine Calls.mono (H.out _) ?_
    rintro e w' ⟨rfl, rfl⟩
    go_wp2_with fail
    go_ret
    exact ⟨by rw [HL.out]; rfl, rfl⟩

/-- the byte at a place, 0 if there is none -/
def nextB (s : ByteArray) (i : Nat) : UInt8 := (bs s)[i]?.getD 0
theorem nextB_in (s : ByteArray) (i : Nat) (h : i < s.size) : nextB s i = s[i] := by simp [nextB, bs_get s i h]
theorem nextB_out (s : ByteArray) (i : Nat) (h : s.size ≤ i) : nextB s i = 0 := by
  unfold nextB
  rw [List.getElem?_eq_none (by rw [bs_len]; exact h)]
  rfl

set_option maxRecDepth 20000 in
theorem next_any (g : Nat) (s : ByteArray) (i : Nat) (w : World) (h0 : w.cell? ⟨g, 0, none⟩ = some (.string s)) (h1 : w.cell? ⟨g, 1, none⟩ = some (.int .i64 i)) (hs : s.size ≤ maxLen) :
    Calls Try.prog 43 #[.pointer (some ⟨g, 0, none⟩)] w fun e w' => e = .returned (bv (nextB s i)) ∧ ∃ n, w' = w.drewN n := by
  unfold maxLen at hs
  by_cases h : i < s.size
  · have HN := Lib.hid (nextB_in s i h)
    have i0 : (0 : Int) ≤ i := by omega
    have i1 : (i : Int) < s.size := by omega
    have i2 : decide ((s.size : Int) ≤ (i : Int)) = false := by simp; omega
    go_enter Try.func43, Try.ntmps43
    go_wp2_with fail
    go_quiet (fail)
    go_wp2_with fail
    go_quiet (fail)
    go_wp2_with fail
    go_ret
    exact ⟨by rw [HN.out]; rfl, ⟨_, World.drewN_drewN ..⟩⟩
  · have HN := Lib.hid (nextB_out s i (by omega))
    have i1 : (s.size : Int) ≤ i := by omega
    have i2 : decide ((s.size : Int) ≤ (i : Int)) = true := by simp; omega
    go_enter Try.func43, Try.ntmps43
    go_wp2_with fail
    go_quiet (fail)
    go_wp2_with fail
    go_ret
    exact ⟨by rw [HN.out]; rfl, ⟨_, rfl⟩⟩
end Go.Proofs.Ytdofgjpgppaghaa

/- Where a word ends, P4.1. -/
import Derived.Test.YtdofgjpgppaghaaTok1
import Derived.Test.YtdofgjpgppaghaaTok2
namespace Go.Proofs.Ytdofgjpgppaghaa
open Go.RowKit
set_option linter.unusedSimpArgs false
set_option linter.unusedVariables false
set_option maxRecDepth 20000 in
set_option maxHeartbeats 1000000 in
theorem wordEnd_any (s : ByteArray) (i : Nat) (w : World) (hs : s.size ≤ maxLen) (hi : i ≤ s.size) :
    Calls Try.prog 48 #[.string s, .int .i64 i] w fun e w' => e = .returned (.int .i64 (i + runN wordB s i : Nat)) ∧ w = w' := by
  unfold maxLen at hs
  go_enter Try.func48, Try.ntmps48
  go_wp2_with fail
  go_loopw [1] (fun x wr => ∃ j : Nat, i ≤ j ∧ j ≤ s.size ∧ i + runN wordB s i = j + runN wordB s j ∧ x = .int .i64 j ∧ w = wr) (fun x _ => s.size - (intOf x).toNat)
  case atStart => exact ⟨i, Nat.le_refl _, hi, rfl, rfl, rfl⟩
  case round =>
    obtain ⟨j, hij, hj, hn, rfl, rfl⟩ := hrel
    have HN := Lib.hid hn
    clear hn
    by_cases hlt : j < s.size
    · have i0 : (0 : Int) ≤ (j : Int) := by omega
      have i1 : (j : Int) < s.size := by omega
      have i2 : decide ((j : Int) < (s.size : Int)) = true := by simp; omega
      cases hl : letterB s[j]
      · cases hd : digitB s[j]
        · have HP := Lib.hid (show wordB s[j] = false by unfold wordB; rw [hl, hd]; rfl)
          have hc := fun wx => letterByte_any s[j] wx
          have hc2 := fun wx => digitByte_any s[j] wx
          rw [hl] at hc
          rw [hd] at hc2
          have HC := Lib.hid hc
          have HD := Lib.hid hc2
          clear hc hc2 hl hd
          have HE := Lib.hid (show i + runN wordB s i = j by rw [HN.out, runN_miss wordB s j hlt HP.out]; rfl)
          go_wp2_with (first | (go_at_call 47; refine (HC.out _).mono ?_; rintro e w' ⟨rfl, rfl⟩) | (go_at_call 60; refine (HD.out _).mono ?_; rintro e w' ⟨rfl, rfl⟩))
          go_ret
          rw [HE.out]
          exact ⟨rfl, rfl⟩
        · have HP := Lib.hid (show wordB s[j] = true by unfold wordB; rw [hl, hd]; rfl)
          have hc := fun wx => letterByte_any s[j] wx
          have hc2 := fun wx => digitByte_any s[j] wx
          rw [hl] at hc
          rw [hd] at hc2
          have HC := Lib.hid hc
          have HD := Lib.hid hc2
          clear hc hc2 hl hd
          go_wp2_with (first | (go_at_call 47; refine (HC.out _).mono ?_; rintro e w' ⟨rfl, rfl⟩) | (go_at_call 60; refine (HD.out _).mono ?_; rintro e w' ⟨rfl, rfl⟩))
          go_roundw
          case measure => simp [intOf]; omega
          case rel => exact ⟨j + 1, by omega, by omega, by rw [HN.out, runN_hit wordB s j hlt HP.out]; omega, by first | rfl | go_num, by first | rfl | trivial⟩
      · have HP := Lib.hid (show wordB s[j] = true by unfold wordB; rw [hl]; rfl)
        have hc := fun wx => letterByte_any s[j] wx
        rw [hl] at hc
        have HC := Lib.hid hc
        clear hc hl
        go_wp2_with (go_at_call 47; refine (HC.out _).mono ?_; rintro e w' ⟨rfl, rfl⟩)
        go_roundw
        case measure => simp [intOf]; omega
        case rel => exact ⟨j + 1, by omega, by omega, by rw [HN.out, runN_hit wordB s j hlt HP.out]; omega, by first | rfl | go_num, by first | rfl | trivial⟩
    · have i1 : (s.size : Int) ≤ j := by omega
      have i2 : decide ((j : Int) < (s.size : Int)) = false := by simp; omega
      have hjs : j = s.size := by omega
      have HE := Lib.hid (show i + runN wordB s i = j by rw [HN.out, hjs, runN_end]; rfl)
      clear hjs
      go_wp2_with fail
      go_ret
      rw [HE.out]
      exact ⟨rfl, rfl⟩
end Go.Proofs.Ytdofgjpgppaghaa

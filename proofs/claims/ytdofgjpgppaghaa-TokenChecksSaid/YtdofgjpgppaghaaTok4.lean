/- The reference's token fault, P4.6. -/
import Derived.Test.YtdofgjpgppaghaaTok3
namespace Go.Proofs.Ytdofgjpgppaghaa
open Go.RowKit
set_option linter.unusedSimpArgs false
set_option linter.unusedVariables false
/-- what P4.6 says -/
def faultOf (k : Int) (t : ByteArray) (n : Int) : Int :=
  if k < 1 ∨ 5 < k then 2
  else if k = 3 then (if n < 0 ∨ 2147483647 < n then 6 else if 0 < t.size then 3 else 0)
  else if n ≠ 0 then 3
  else if k = 5 then (if h : t.size = 1 then (if markB t[0] then 0 else 3) else 3)
  else if k = 4 then 0
  else (if h : 0 < t.size then (if letterB t[0] ∧ runN wordB t 0 = t.size then 0 else 3) else 3)

theorem fault_word (k : Int) (t : ByteArray) (h : k = 1 ∨ k = 2) (hz : 0 < t.size) : faultOf k t 0 = if letterB t[0] ∧ runN wordB t 0 = t.size then 0 else 3 := by
  unfold faultOf
  rw [if_neg (by omega), if_neg (by omega), if_neg (by omega), if_neg (by omega), if_neg (by omega), dif_pos hz]

/-- a token as it is handed in -/
def tokV (k : Int) (t : ByteArray) (n : Int) : Value := .agg #[.int .i64 k, .string t, .int .i64 n]

def FaultIs (k : Int) (t : ByteArray) (n : Int) (w : World) (e : Ending) (w' : World) : Prop := e = .returned (.int .i64 (faultOf k t n)) ∧ Below w.heap.size w w'

set_option maxRecDepth 20000 in
set_option maxHeartbeats 1000000 in
theorem tokenFault_any (k : Int) (t : ByteArray) (n : Int) (w : World) (hs : t.size ≤ maxLen) :
    Calls Try.prog 29 #[.agg #[.int .i64 k, .string t, .int .i64 n]] w (FaultIs k t n w) := by
  have hs' := hs
  unfold maxLen at hs'
  by_cases hin : k < 1 ∨ 5 < k
  · have HF := Lib.hid (show faultOf k t n = 2 by unfold faultOf; rw [if_pos hin])
    go_enter Try.func29, Try.ntmps29
    go_wp2_with (go_at_call 32; refine (In_no _ _ _ _ (by omega)).mono ?_; rintro e w' ⟨rfl, rfl⟩)
    go_ret
    refine ⟨by rw [HF.out]; rfl, ?_⟩
    (repeat (first | with_reducible exact Below.refl _ _ | with_reducible refine Below.setCell ?_ ?_ _ | with_reducible refine Below.alloc ?_ ?_ _ | with_reducible refine Below.drew ?_ | with_reducible refine below_drewN ?_ _))
    all_goals (first | omega | (simp; done) | (simp; omega))
  by_cases h3 : k = 3
  · subst h3
    by_cases hn : n < 0 ∨ 2147483647 < n
    · have HF := Lib.hid (show faultOf 3 t n = 6 by unfold faultOf; rw [if_neg hin, if_pos rfl, if_pos hn])
      go_enter Try.func29, Try.ntmps29
      go_wp2_with (first | (go_at_call 32; refine (In_no _ _ _ _ (by omega)).mono ?_; rintro e w' ⟨rfl, rfl⟩) | (go_at_call 32; refine (In_yes _ _ _ _ (by omega) (by omega)).mono ?_; rintro e w' ⟨rfl, rfl⟩))
      go_ret
      refine ⟨by rw [HF.out]; rfl, ?_⟩
      (repeat (first | with_reducible exact Below.refl _ _ | with_reducible refine Below.setCell ?_ ?_ _ | with_reducible refine Below.alloc ?_ ?_ _ | with_reducible refine Below.drew ?_ | with_reducible refine below_drewN ?_ _))
      all_goals (first | omega | (simp; done) | (simp; omega))
    by_cases hz : 0 < t.size
    · have HF := Lib.hid (show faultOf 3 t n = 3 by unfold faultOf; rw [if_neg hin, if_pos rfl, if_neg hn, if_pos hz])
      have i1 : (0 : Int) < t.size := by omega
      go_enter Try.func29, Try.ntmps29
      go_wp2_with (first | (go_at_call 32; refine (In_yes _ _ _ _ (by omega) (by omega)).mono ?_; rintro e w' ⟨rfl, rfl⟩))
      go_ret
      refine ⟨by rw [HF.out]; rfl, ?_⟩
      (repeat (first | with_reducible exact Below.refl _ _ | with_reducible refine Below.setCell ?_ ?_ _ | with_reducible refine Below.alloc ?_ ?_ _ | with_reducible refine Below.drew ?_ | with_reducible refine below_drewN ?_ _))
      all_goals (first | omega | (simp; done) | (simp; omega))
    · have HF := Lib.hid (show faultOf 3 t n = 0 by unfold faultOf; rw [if_neg hin, if_pos rfl, if_neg hn, if_neg hz])
      have i1 : ((t.size : Nat) : Int) = 0 := by omega
      go_enter Try.func29, Try.ntmps29
      go_wp2_with (first | (go_at_call 32; refine (In_yes _ _ _ _ (by omega) (by omega)).mono ?_; rintro e w' ⟨rfl, rfl⟩))
      go_ret
      refine ⟨by rw [HF.out]; rfl, ?_⟩
      (repeat (first | with_reducible exact Below.refl _ _ | with_reducible refine Below.setCell ?_ ?_ _ | with_reducible refine Below.alloc ?_ ?_ _ | with_reducible refine Below.drew ?_ | with_reducible refine below_drewN ?_ _))
      all_goals (first | omega | (simp; done) | (simp; omega))
  by_cases h5 : k = 5
  · subst h5
    by_cases hn : n = 0
    · subst hn
      by_cases hz : t.size = 1
      · have i1 : ((t.size : Nat) : Int) = 1 := by omega
        have i2 : (0 : Int) < t.size := by omega
        cases hm : markB (t[0]'(by omega))
        · have HF := Lib.hid (show faultOf 5 t 0 = 3 by unfold faultOf; rw [if_neg hin, if_neg h3, if_neg (by omega), if_pos rfl, dif_pos hz, hm]; rfl)
          have hc := fun wx => markByte_any (t[0]'(by omega)) wx
          rw [hm] at hc
          have HC := Lib.hid hc
          clear hc hm
          go_enter Try.func29, Try.ntmps29
          go_wp2_with (first | (go_at_call 32; refine (In_yes _ _ _ _ (by omega) (by omega)).mono ?_; rintro e w' ⟨rfl, rfl⟩) | (go_at_call 46; refine (HC.out _).mono ?_; rintro e w' ⟨rfl, rfl⟩))
          go_ret
          refine ⟨by rw [HF.out]; rfl, ?_⟩
          (repeat (first | with_reducible exact Below.refl _ _ | with_reducible refine Below.setCell ?_ ?_ _ | with_reducible refine Below.alloc ?_ ?_ _ | with_reducible refine Below.drew ?_ | with_reducible refine below_drewN ?_ _))
          all_goals (first | omega | (simp; done) | (simp; omega))
        · have HF := Lib.hid (show faultOf 5 t 0 = 0 by unfold faultOf; rw [if_neg hin, if_neg h3, if_neg (by omega), if_pos rfl, dif_pos hz, hm]; rfl)
          have hc := fun wx => markByte_any (t[0]'(by omega)) wx
          rw [hm] at hc
          have HC := Lib.hid hc
          clear hc hm
          go_enter Try.func29, Try.ntmps29
          go_wp2_with (first | (go_at_call 32; refine (In_yes _ _ _ _ (by omega) (by omega)).mono ?_; rintro e w' ⟨rfl, rfl⟩) | (go_at_call 46; refine (HC.out _).mono ?_; rintro e w' ⟨rfl, rfl⟩))
          go_ret
          refine ⟨by rw [HF.out]; rfl, ?_⟩
          (repeat (first | with_reducible exact Below.refl _ _ | with_reducible refine Below.setCell ?_ ?_ _ | with_reducible refine Below.alloc ?_ ?_ _ | with_reducible refine Below.drew ?_ | with_reducible refine below_drewN ?_ _))
          all_goals (first | omega | (simp; done) | (simp; omega))
      · have i1 : (((t.size : Nat) : Int) == 1) = false := beq_false_of_ne (by omega)
        have HF := Lib.hid (show faultOf 5 t 0 = 3 by unfold faultOf; rw [if_neg hin, if_neg h3, if_neg (by omega), if_pos rfl, dif_neg hz])
        clear hz
        go_enter Try.func29, Try.ntmps29
        go_wp2_with (first | (go_at_call 32; refine (In_yes _ _ _ _ (by omega) (by omega)).mono ?_; rintro e w' ⟨rfl, rfl⟩))
        go_ret
        refine ⟨by rw [HF.out]; rfl, ?_⟩
        (repeat (first | with_reducible exact Below.refl _ _ | with_reducible refine Below.setCell ?_ ?_ _ | with_reducible refine Below.alloc ?_ ?_ _ | with_reducible refine Below.drew ?_ | with_reducible refine below_drewN ?_ _))
        all_goals (first | omega | (simp; done) | (simp; omega))
    · have i1 : (n == 0) = false := by simpa using hn
      have HF := Lib.hid (show faultOf 5 t n = 3 by unfold faultOf; rw [if_neg hin, if_neg h3, if_pos hn])
      clear hn
      go_enter Try.func29, Try.ntmps29
      go_wp2_with (first | (go_at_call 32; refine (In_yes _ _ _ _ (by omega) (by omega)).mono ?_; rintro e w' ⟨rfl, rfl⟩))
      go_ret
      refine ⟨by rw [HF.out]; rfl, ?_⟩
      (repeat (first | with_reducible exact Below.refl _ _ | with_reducible refine Below.setCell ?_ ?_ _ | with_reducible refine Below.alloc ?_ ?_ _ | with_reducible refine Below.drew ?_ | with_reducible refine below_drewN ?_ _))
      all_goals (first | omega | (simp; done) | (simp; omega))
  by_cases h4 : k = 4
  · subst h4
    by_cases hn : n = 0
    · subst hn
      have HF := Lib.hid (show faultOf 4 t 0 = 0 by unfold faultOf; rw [if_neg hin, if_neg h3, if_neg (by omega), if_neg h5, if_pos rfl])
      go_enter Try.func29, Try.ntmps29
      go_wp2_with (first | (go_at_call 32; refine (In_yes _ _ _ _ (by omega) (by omega)).mono ?_; rintro e w' ⟨rfl, rfl⟩))
      go_ret
      refine ⟨by rw [HF.out]; rfl, ?_⟩
      (repeat (first | with_reducible exact Below.refl _ _ | with_reducible refine Below.setCell ?_ ?_ _ | with_reducible refine Below.alloc ?_ ?_ _ | with_reducible refine Below.drew ?_ | with_reducible refine below_drewN ?_ _))
      all_goals (first | omega | (simp; done) | (simp; omega))
    · have i1 : (n == 0) = false := by simpa using hn
      have HF := Lib.hid (show faultOf 4 t n = 3 by unfold faultOf; rw [if_neg hin, if_neg h3, if_pos hn])
      clear hn
      go_enter Try.func29, Try.ntmps29
      go_wp2_with (first | (go_at_call 32; refine (In_yes _ _ _ _ (by omega) (by omega)).mono ?_; rintro e w' ⟨rfl, rfl⟩))
      go_ret
      refine ⟨by rw [HF.out]; rfl, ?_⟩
      (repeat (first | with_reducible exact Below.refl _ _ | with_reducible refine Below.setCell ?_ ?_ _ | with_reducible refine Below.alloc ?_ ?_ _ | with_reducible refine Below.drew ?_ | with_reducible refine below_drewN ?_ _))
      all_goals (first | omega | (simp; done) | (simp; omega))
  by_cases h1 : k = 1
  · subst h1
    by_cases hn : n = 0
    · subst hn
      by_cases hz : 0 < t.size
      · have i2 : (0 : Int) < t.size := by omega
        cases hm : letterB (t[0]'hz)
        · have HF := Lib.hid (show faultOf 1 t 0 = 3 by rw [fault_word 1 t (by omega) hz, hm]; rfl)
          have hc := fun wx => letterByte_any (t[0]'hz) wx
          rw [hm] at hc
          have HC := Lib.hid hc
          clear hc hm
          go_enter Try.func29, Try.ntmps29
          go_wp2_with (first | (go_at_call 32; refine (In_yes _ _ _ _ (by omega) (by omega)).mono ?_; rintro e w' ⟨rfl, rfl⟩))
          go_quiet (first | (go_at_call 47; exact Calls.quiet_of_same (Calls.mono (HC.out _) (fun _ _ ⟨h1, h2⟩ => ⟨h1, h2.symm⟩))))
          go_wp2_with fail
          go_ret
          refine ⟨by rw [HF.out]; rfl, ?_⟩
          (repeat (first | with_reducible exact Below.refl _ _ | with_reducible refine Below.setCell ?_ ?_ _ | with_reducible refine Below.alloc ?_ ?_ _ | with_reducible refine Below.drew ?_ | with_reducible refine below_drewN ?_ _))
          all_goals (first | omega | (simp; done) | (simp; omega))
        · have hc := fun wx => letterByte_any (t[0]'hz) wx
          have hd := fun wx => wordEnd_any t 0 wx hs (by omega)
          rw [hm] at hc
          have HC := Lib.hid hc
          clear hc
          by_cases hr : runN wordB t 0 = t.size
          · have HF := Lib.hid (show faultOf 1 t 0 = 0 by rw [fault_word 1 t (by omega) hz, if_pos ⟨hm, hr⟩])
            rw [hr, Nat.zero_add] at hd
            have HD := Lib.hid hd
            clear hd hm hr
            go_enter Try.func29, Try.ntmps29
            go_wp2_with (first | (go_at_call 32; refine (In_yes _ _ _ _ (by omega) (by omega)).mono ?_; rintro e w' ⟨rfl, rfl⟩))
            go_quiet (first | (go_at_call 47; exact Calls.quiet_of_same (Calls.mono (HC.out _) (fun _ _ ⟨h1, h2⟩ => ⟨h1, h2.symm⟩))) | (go_at_call 48; exact Calls.quiet_of_same (Calls.mono (HD.out _) (fun _ _ ⟨h1, h2⟩ => ⟨h1, h2.symm⟩))))
            go_wp2_with fail
            go_ret
            refine ⟨by rw [HF.out]; rfl, ?_⟩
            (repeat (first | with_reducible exact Below.refl _ _ | with_reducible refine Below.setCell ?_ ?_ _ | with_reducible refine Below.alloc ?_ ?_ _ | with_reducible refine Below.drew ?_ | with_reducible refine below_drewN ?_ _))
            all_goals (first | omega | (simp; done) | (simp; omega))
          · have HF := Lib.hid (show faultOf 1 t 0 = 3 by rw [fault_word 1 t (by omega) hz, if_neg (fun h => hr h.2)])
            rw [Nat.zero_add] at hd
            obtain ⟨r, hr'⟩ : ∃ r : Nat, r = runN wordB t 0 := ⟨_, rfl⟩
            rw [← hr'] at hd hr
            have i3 : (((r : Nat) : Int) == t.size) = false := by simp; omega
            have HD := Lib.hid hd
            clear hd hm hr hr'
            go_enter Try.func29, Try.ntmps29
            go_wp2_with (first | (go_at_call 32; refine (In_yes _ _ _ _ (by omega) (by omega)).mono ?_; rintro e w' ⟨rfl, rfl⟩))
            go_quiet (first | (go_at_call 47; exact Calls.quiet_of_same (Calls.mono (HC.out _) (fun _ _ ⟨h1, h2⟩ => ⟨h1, h2.symm⟩))) | (go_at_call 48; exact Calls.quiet_of_same (Calls.mono (HD.out _) (fun _ _ ⟨h1, h2⟩ => ⟨h1, h2.symm⟩))))
            go_wp2_with fail
            go_ret
            refine ⟨by rw [HF.out]; rfl, ?_⟩
            (repeat (first | with_reducible exact Below.refl _ _ | with_reducible refine Below.setCell ?_ ?_ _ | with_reducible refine Below.alloc ?_ ?_ _ | with_reducible refine Below.drew ?_ | with_reducible refine below_drewN ?_ _))
            all_goals (first | omega | (simp; done) | (simp; omega))
      · have i1 : (t.size : Int) ≤ 0 := by omega
        have i4 : ((t.size : Nat) : Int) = 0 := by omega
        have HF := Lib.hid (show faultOf 1 t 0 = 3 by unfold faultOf; rw [if_neg hin, if_neg h3, if_neg (by omega), if_neg h5, if_neg h4, dif_neg hz])
        clear hz
        go_enter Try.func29, Try.ntmps29
        go_wp2_with (first | (go_at_call 32; refine (In_yes _ _ _ _ (by omega) (by omega)).mono ?_; rintro e w' ⟨rfl, rfl⟩))
        go_quiet (fail)
        go_wp2_with fail
        go_ret
        refine ⟨by rw [HF.out]; rfl, ?_⟩
        (repeat (first | with_reducible exact Below.refl _ _ | with_reducible refine Below.setCell ?_ ?_ _ | with_reducible refine Below.alloc ?_ ?_ _ | with_reducible refine Below.drew ?_ | with_reducible refine below_drewN ?_ _))
        all_goals (first | omega | (simp; done) | (simp; omega))
    · have i1 : (n == 0) = false := by simpa using hn
      have HF := Lib.hid (show faultOf 1 t n = 3 by unfold faultOf; rw [if_neg hin, if_neg h3, if_pos hn])
      clear hn
      go_enter Try.func29, Try.ntmps29
      go_wp2_with (first | (go_at_call 32; refine (In_yes _ _ _ _ (by omega) (by omega)).mono ?_; rintro e w' ⟨rfl, rfl⟩))
      go_quiet (fail)
      go_wp2_with fail
      go_ret
      refine ⟨by rw [HF.out]; rfl, ?_⟩
      (repeat (first | with_reducible exact Below.refl _ _ | with_reducible refine Below.setCell ?_ ?_ _ | with_reducible refine Below.alloc ?_ ?_ _ | with_reducible refine Below.drew ?_ | with_reducible refine below_drewN ?_ _))
      all_goals (first | omega | (simp; done) | (simp; omega))
  by_cases h2 : k = 2
  · subst h2
    by_cases hn : n = 0
    · subst hn
      by_cases hz : 0 < t.size
      · have i2 : (0 : Int) < t.size := by omega
        cases hm : letterB (t[0]'hz)
        · have HF := Lib.hid (show faultOf 2 t 0 = 3 by rw [fault_word 2 t (by omega) hz, hm]; rfl)
          have hc := fun wx => letterByte_any (t[0]'hz) wx
          rw [hm] at hc
          have HC := Lib.hid hc
          clear hc hm
          go_enter Try.func29, Try.ntmps29
          go_wp2_with (first | (go_at_call 32; refine (In_yes _ _ _ _ (by omega) (by omega)).mono ?_; rintro e w' ⟨rfl, rfl⟩))
          go_quiet (first | (go_at_call 47; exact Calls.quiet_of_same (Calls.mono (HC.out _) (fun _ _ ⟨h1, h2⟩ => ⟨h1, h2.symm⟩))))
          go_wp2_with fail
          go_ret
          refine ⟨by rw [HF.out]; rfl, ?_⟩
          (repeat (first | with_reducible exact Below.refl _ _ | with_reducible refine Below.setCell ?_ ?_ _ | with_reducible refine Below.alloc ?_ ?_ _ | with_reducible refine Below.drew ?_ | with_reducible refine below_drewN ?_ _))
          all_goals (first | omega | (simp; done) | (simp; omega))
        · have hc := fun wx => letterByte_any (t[0]'hz) wx
          have hd := fun wx => wordEnd_any t 0 wx hs (by omega)
          rw [hm] at hc
          have HC := Lib.hid hc
          clear hc
          by_cases hr : runN wordB t 0 = t.size
          · have HF := Lib.hid (show faultOf 2 t 0 = 0 by rw [fault_word 2 t (by omega) hz, if_pos ⟨hm, hr⟩])
            rw [hr, Nat.zero_add] at hd
            have HD := Lib.hid hd
            clear hd hm hr
            go_enter Try.func29, Try.ntmps29
            go_wp2_with (first | (go_at_call 32; refine (In_yes _ _ _ _ (by omega) (by omega)).mono ?_; rintro e w' ⟨rfl, rfl⟩))
            go_quiet (first | (go_at_call 47; exact Calls.quiet_of_same (Calls.mono (HC.out _) (fun _ _ ⟨h1, h2⟩ => ⟨h1, h2.symm⟩))) | (go_at_call 48; exact Calls.quiet_of_same (Calls.mono (HD.out _) (fun _ _ ⟨h1, h2⟩ => ⟨h1, h2.symm⟩))))
            go_wp2_with fail
            go_ret
            refine ⟨by rw [HF.out]; rfl, ?_⟩
            (repeat (first | with_reducible exact Below.refl _ _ | with_reducible refine Below.setCell ?_ ?_ _ | with_reducible refine Below.alloc ?_ ?_ _ | with_reducible refine Below.drew ?_ | with_reducible refine below_drewN ?_ _))
            all_goals (first | omega | (simp; done) | (simp; omega))
          · have HF := Lib.hid (show faultOf 2 t 0 = 3 by rw [fault_word 2 t (by omega) hz, if_neg (fun h => hr h.2)])
            rw [Nat.zero_add] at hd
            obtain ⟨r, hr'⟩ : ∃ r : Nat, r = runN wordB t 0 := ⟨_, rfl⟩
            rw [← hr'] at hd hr
            have i3 : (((r : Nat) : Int) == t.size) = false := by simp; omega
            have HD := Lib.hid hd
            clear hd hm hr hr'
            go_enter Try.func29, Try.ntmps29
            go_wp2_with (first | (go_at_call 32; refine (In_yes _ _ _ _ (by omega) (by omega)).mono ?_; rintro e w' ⟨rfl, rfl⟩))
            go_quiet (first | (go_at_call 47; exact Calls.quiet_of_same (Calls.mono (HC.out _) (fun _ _ ⟨h1, h2⟩ => ⟨h1, h2.symm⟩))) | (go_at_call 48; exact Calls.quiet_of_same (Calls.mono (HD.out _) (fun _ _ ⟨h1, h2⟩ => ⟨h1, h2.symm⟩))))
            go_wp2_with fail
            go_ret
            refine ⟨by rw [HF.out]; rfl, ?_⟩
            (repeat (first | with_reducible exact Below.refl _ _ | with_reducible refine Below.setCell ?_ ?_ _ | with_reducible refine Below.alloc ?_ ?_ _ | with_reducible refine Below.drew ?_ | with_reducible refine below_drewN ?_ _))
            all_goals (first | omega | (simp; done) | (simp; omega))
      · have i1 : (t.size : Int) ≤ 0 := by omega
        have i4 : ((t.size : Nat) : Int) = 0 := by omega
        have HF := Lib.hid (show faultOf 2 t 0 = 3 by unfold faultOf; rw [if_neg hin, if_neg h3, if_neg (by omega), if_neg h5, if_neg h4, dif_neg hz])
        clear hz
        go_enter Try.func29, Try.ntmps29
        go_wp2_with (first | (go_at_call 32; refine (In_yes _ _ _ _ (by omega) (by omega)).mono ?_; rintro e w' ⟨rfl, rfl⟩))
        go_quiet (fail)
        go_wp2_with fail
        go_ret
        refine ⟨by rw [HF.out]; rfl, ?_⟩
        (repeat (first | with_reducible exact Below.refl _ _ | with_reducible refine Below.setCell ?_ ?_ _ | with_reducible refine Below.alloc ?_ ?_ _ | with_reducible refine Below.drew ?_ | with_reducible refine below_drewN ?_ _))
        all_goals (first | omega | (simp; done) | (simp; omega))
    · have i1 : (n == 0) = false := by simpa using hn
      have HF := Lib.hid (show faultOf 2 t n = 3 by unfold faultOf; rw [if_neg hin, if_neg h3, if_pos hn])
      clear hn
      go_enter Try.func29, Try.ntmps29
      go_wp2_with (first | (go_at_call 32; refine (In_yes _ _ _ _ (by omega) (by omega)).mono ?_; rintro e w' ⟨rfl, rfl⟩))
      go_quiet (fail)
      go_wp2_with fail
      go_ret
      refine ⟨by rw [HF.out]; rfl, ?_⟩
      (repeat (first | with_reducible exact Below.refl _ _ | with_reducible refine Below.setCell ?_ ?_ _ | with_reducible refine Below.alloc ?_ ?_ _ | with_reducible refine Below.drew ?_ | with_reducible refine below_drewN ?_ _))
      all_goals (first | omega | (simp; done) | (simp; omega))
  exfalso
  omega
end Go.Proofs.Ytdofgjpgppaghaa

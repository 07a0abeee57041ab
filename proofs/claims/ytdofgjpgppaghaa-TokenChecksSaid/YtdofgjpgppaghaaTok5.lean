/- The program's token check, P4.6. -/
import Derived.Test.YtdofgjpgppaghaaTok4
import Derived.Test.YtdofgjpgppaghaaShelf
import Derived.Lib.IndexAny
import Derived.Deep.RegionHeld3
namespace Go.Proofs.Ytdofgjpgppaghaa
open Go.RowKit
set_option linter.unusedSimpArgs false
set_option linter.unusedVariables false
theorem word_check (g : Nat) (s : ByteArray) (w : World) (h0 : w.cell? ⟨g, 0, none⟩ = some (.string s)) (h1 : w.cell? ⟨g, 1, none⟩ = some (.int .i64 0)) (hz : w.frozen? ⟨g, 1, none⟩ = false) (hs : s.size ≤ maxLen) (hg : g ≤ w.heap.size) :
    Calls Try.prog 44 #[.pointer (some ⟨g, 0, none⟩)] w fun e w' => e = .returned (.string (s.extract 0 (runN wordB s 0))) ∧ Below g w w' :=
  (word_any g s 0 w h0 h1 hz hs (Nat.zero_le _)).mono fun _ _ ⟨h, k, _⟩ => ⟨by rw [h, Nat.zero_add], k.below (Nat.le_refl _) hg⟩
theorem text_ne {a b : ByteArray} (h : a ≠ b) : (a.toList == b.toList) = false := by
  cases hb : (a.toList == b.toList)
  · rfl
  · have he := eq_of_beq hb
    rw [ByteArray.toList_eq, ByteArray.toList_eq] at he
    exact absurd (bs_inj he) h
theorem run_text (s : ByteArray) (h : runN wordB s 0 = s.size) : s.extract 0 (runN wordB s 0) = s := by
  rw [h]
  exact ByteArray.extract_zero_size
theorem run_other (s : ByteArray) (h : runN wordB s 0 ≠ s.size) : ((s.extract 0 (runN wordB s 0)).toList == s.toList) = false := by
  have hle := runN_le wordB s 0 (Nat.zero_le _)
  refine text_ne fun he => ?_
  have := congrArg ByteArray.size he
  rw [ByteArray.size_extract] at this
  omega
theorem fault_mark_no (t : ByteArray) (n : Int) (h : ∀ hz : t.size = 1, markB t[0] = false) : faultOf 5 t n = 3 := by
  unfold faultOf
  rw [if_neg (by omega), if_neg (by decide)]
  by_cases hn : n ≠ 0
  · rw [if_pos hn]
  · rw [if_neg hn, if_pos rfl]
    by_cases hz : t.size = 1
    · rw [dif_pos hz, if_neg (by rw [h hz]; decide)]
    · rw [dif_neg hz]
theorem fault_word_no (k : Int) (t : ByteArray) (n : Int) (hk : k = 1 ∨ k = 2) (h : ∀ hz : 0 < t.size, ¬ (letterB t[0] = true ∧ runN wordB t 0 = t.size)) : faultOf k t n = 3 := by
  unfold faultOf
  rw [if_neg (by omega), if_neg (by omega)]
  by_cases hn : n ≠ 0
  · rw [if_pos hn]
  · rw [if_neg hn, if_neg (by omega), if_neg (by omega)]
    by_cases hz : 0 < t.size
    · rw [dif_pos hz, if_neg (h hz)]
    · rw [dif_neg hz]
theorem one_byte (t : ByteArray) (h : t.size = 1) : t = ⟨#[t[0]]⟩ := by
  apply bs_inj
  have hl : (bs t).length = 1 := by rw [bs_len]; exact h
  match hb : bs t, hl with
  | [c], _ =>
    have : t[0] = c := by
      have e : (bs t)[0]? = some t[0] := by rw [List.getElem?_eq_getElem (by rw [bs_len]; omega)]; rfl
      rw [hb] at e
      exact (Option.some.inj e).symm
    rw [this]
    rfl
theorem mark_in (c : UInt8) : decide (0 ≤ Lib.indexByte [123, 125, 40, 41, 91, 93, 59, 44] c) = markB c := by
  rw [← Lib.contains_iff_indexByte]
  unfold markB
  rw [Bool.eq_iff_iff]
  simp [← UInt8.toNat_inj, or_assoc]
theorem contains_mark (t : ByteArray) (h : t.size = 1) (w : World) : Calls Try.prog 45 #[.string ⟨#[123, 125, 40, 41, 91, 93, 59, 44]⟩, .string t] w fun e w' => e = .returned (.bool (markB t[0])) ∧ w = w' := by
  have hc := Try.strings_Contains_one ⟨#[123, 125, 40, 41, 91, 93, 59, 44]⟩ t[0] w
  rw [← one_byte t h] at hc
  exact hc.mono fun _ _ ⟨a, b⟩ => ⟨by rw [a]; congr 2; exact mark_in _, b.symm⟩

set_option maxRecDepth 20000 in
set_option maxHeartbeats 1000000 in
theorem tokenCheck_any (k : Int) (t : ByteArray) (n : Int) (w : World) (hs : t.size ≤ maxLen) :
    Calls Try.prog 28 #[.agg #[.int .i64 k, .string t, .int .i64 n]] w (FaultIs k t n w) := by
  have hs' := hs
  unfold maxLen at hs'
  by_cases h3 : k = 3
  · subst h3
    by_cases hn : n < 0
    · have HF := Lib.hid (show faultOf 3 t n = 6 by unfold faultOf; rw [if_neg (by omega), if_pos rfl, if_pos (.inl hn)])
      go_enter Try.func28, Try.ntmps28
      go_wp2_with (fail)
      go_ret
      refine ⟨by rw [HF.out]; rfl, ?_⟩
      (repeat (first | with_reducible exact Below.refl _ _ | with_reducible refine Below.setCell ?_ ?_ _ | with_reducible refine Below.alloc ?_ ?_ _ | with_reducible refine Below.drew ?_ | with_reducible refine below_drewN ?_ _))
      all_goals (first | omega | (simp; done) | (simp; omega))
    by_cases hn2 : 2147483647 < n
    · have HF := Lib.hid (show faultOf 3 t n = 6 by unfold faultOf; rw [if_neg (by omega), if_pos rfl, if_pos (.inr hn2)])
      go_enter Try.func28, Try.ntmps28
      go_wp2_with (fail)
      go_ret
      refine ⟨by rw [HF.out]; rfl, ?_⟩
      (repeat (first | with_reducible exact Below.refl _ _ | with_reducible refine Below.setCell ?_ ?_ _ | with_reducible refine Below.alloc ?_ ?_ _ | with_reducible refine Below.drew ?_ | with_reducible refine below_drewN ?_ _))
      all_goals (first | omega | (simp; done) | (simp; omega))
    by_cases hz : 0 < t.size
    · have HF := Lib.hid (show faultOf 3 t n = 3 by unfold faultOf; rw [if_neg (by omega), if_pos rfl, if_neg (by omega), if_pos hz])
      have i1 : t.toList.isEmpty = false := by
        cases hb : t.toList.isEmpty
        · rfl
        · have h2 := List.isEmpty_iff.1 hb
          rw [ByteArray.toList_eq] at h2
          have h4 : (bs t).length = 0 := by unfold bs; rw [h2]; rfl
          rw [bs_len] at h4
          omega
      go_enter Try.func28, Try.ntmps28
      go_wp2_with (fail)
      go_ret
      refine ⟨by rw [HF.out]; rfl, ?_⟩
      (repeat (first | with_reducible exact Below.refl _ _ | with_reducible refine Below.setCell ?_ ?_ _ | with_reducible refine Below.alloc ?_ ?_ _ | with_reducible refine Below.drew ?_ | with_reducible refine below_drewN ?_ _))
      all_goals (first | omega | (simp; done) | (simp; omega))
    · have HF := Lib.hid (show faultOf 3 t n = 0 by unfold faultOf; rw [if_neg (by omega), if_pos rfl, if_neg (by omega), if_neg hz])
      obtain rfl : t = ⟨#[]⟩ := by
        apply bs_inj
        have hl : (bs t).length = 0 := by rw [bs_len]; omega
        rw [List.length_eq_zero_iff.1 hl]
        rfl
      go_enter Try.func28, Try.ntmps28
      go_wp2_with (fail)
      go_ret
      refine ⟨by rw [HF.out]; rfl, ?_⟩
      (repeat (first | with_reducible exact Below.refl _ _ | with_reducible refine Below.setCell ?_ ?_ _ | with_reducible refine Below.alloc ?_ ?_ _ | with_reducible refine Below.drew ?_ | with_reducible refine below_drewN ?_ _))
      all_goals (first | omega | (simp; done) | (simp; omega))
  by_cases h5 : k = 5
  · subst h5
    by_cases hz : t.size = 1
    · have i1 : ((t.size : Nat) : Int) = 1 := by omega
      cases hm : markB (t[0]'(by omega))
      · have HF := Lib.hid (fault_mark_no t n (fun _ => hm))
        have hc := fun wx => contains_mark t hz wx
        rw [hm] at hc
        have HC := Lib.hid hc
        clear hc hm
        go_enter Try.func28, Try.ntmps28
        go_wp2_with (first | (go_at_call 45; refine (HC.out _).mono ?_; rintro e w' ⟨rfl, rfl⟩))
        go_ret
        refine ⟨by rw [HF.out]; rfl, ?_⟩
        (repeat (first | with_reducible exact Below.refl _ _ | with_reducible refine Below.setCell ?_ ?_ _ | with_reducible refine Below.alloc ?_ ?_ _ | with_reducible refine Below.drew ?_ | with_reducible refine below_drewN ?_ _))
        all_goals (first | omega | (simp; done) | (simp; omega))
      · by_cases hn : n = 0
        · subst hn
          have HF := Lib.hid (show faultOf 5 t 0 = 0 by unfold faultOf; rw [if_neg (by omega), if_neg h3, if_neg (by omega), if_pos rfl, dif_pos hz, hm]; rfl)
          have hc := fun wx => contains_mark t hz wx
          rw [hm] at hc
          have HC := Lib.hid hc
          clear hc hm
          go_enter Try.func28, Try.ntmps28
          go_wp2_with (first | (go_at_call 45; refine (HC.out _).mono ?_; rintro e w' ⟨rfl, rfl⟩))
          go_ret
          refine ⟨by rw [HF.out]; rfl, ?_⟩
          (repeat (first | with_reducible exact Below.refl _ _ | with_reducible refine Below.setCell ?_ ?_ _ | with_reducible refine Below.alloc ?_ ?_ _ | with_reducible refine Below.drew ?_ | with_reducible refine below_drewN ?_ _))
          all_goals (first | omega | (simp; done) | (simp; omega))
        · have i2 : (n == 0) = false := by simpa using hn
          have HF := Lib.hid (show faultOf 5 t n = 3 by unfold faultOf; rw [if_neg (by omega), if_neg h3, if_pos hn])
          clear hn
          have hc := fun wx => contains_mark t hz wx
          rw [hm] at hc
          have HC := Lib.hid hc
          clear hc hm
          go_enter Try.func28, Try.ntmps28
          go_wp2_with (first | (go_at_call 45; refine (HC.out _).mono ?_; rintro e w' ⟨rfl, rfl⟩))
          go_ret
          refine ⟨by rw [HF.out]; rfl, ?_⟩
          (repeat (first | with_reducible exact Below.refl _ _ | with_reducible refine Below.setCell ?_ ?_ _ | with_reducible refine Below.alloc ?_ ?_ _ | with_reducible refine Below.drew ?_ | with_reducible refine below_drewN ?_ _))
          all_goals (first | omega | (simp; done) | (simp; omega))
    · have i1 : (((t.size : Nat) : Int) == 1) = false := beq_false_of_ne (by omega)
      have i2 : (((t.size : Nat) : Int) != 1) = true := by simp only [bne, i1]; rfl
      have i3 : ¬ ((t.size : Nat) : Int) = 1 := by omega
      have HF := Lib.hid (fault_mark_no t n (fun h => absurd h hz))
      clear hz
      go_enter Try.func28, Try.ntmps28
      go_wp2_with (fail)
      go_ret
      refine ⟨by rw [HF.out]; rfl, ?_⟩
      (repeat (first | with_reducible exact Below.refl _ _ | with_reducible refine Below.setCell ?_ ?_ _ | with_reducible refine Below.alloc ?_ ?_ _ | with_reducible refine Below.drew ?_ | with_reducible refine below_drewN ?_ _))
      all_goals (first | omega | (simp; done) | (simp; omega))
  by_cases h4 : k = 4
  · subst h4
    by_cases hn : n = 0
    · subst hn
      have HF := Lib.hid (show faultOf 4 t 0 = 0 by unfold faultOf; rw [if_neg (by omega), if_neg h3, if_neg (by omega), if_neg h5, if_pos rfl])
      go_enter Try.func28, Try.ntmps28
      go_wp2_with (fail)
      go_ret
      refine ⟨by rw [HF.out]; rfl, ?_⟩
      (repeat (first | with_reducible exact Below.refl _ _ | with_reducible refine Below.setCell ?_ ?_ _ | with_reducible refine Below.alloc ?_ ?_ _ | with_reducible refine Below.drew ?_ | with_reducible refine below_drewN ?_ _))
      all_goals (first | omega | (simp; done) | (simp; omega))
    · have i2 : (n == 0) = false := by simpa using hn
      have HF := Lib.hid (show faultOf 4 t n = 3 by unfold faultOf; rw [if_neg (by omega), if_neg h3, if_pos hn])
      clear hn
      go_enter Try.func28, Try.ntmps28
      go_wp2_with (fail)
      go_ret
      refine ⟨by rw [HF.out]; rfl, ?_⟩
      (repeat (first | with_reducible exact Below.refl _ _ | with_reducible refine Below.setCell ?_ ?_ _ | with_reducible refine Below.alloc ?_ ?_ _ | with_reducible refine Below.drew ?_ | with_reducible refine below_drewN ?_ _))
      all_goals (first | omega | (simp; done) | (simp; omega))
  by_cases h1 : k = 1
  · subst h1
    by_cases hl : ∃ hz : 0 < t.size, letterB (t[0]'hz) = true
    · obtain ⟨hz, hm⟩ := hl
      have hc := fun wx => letter_any (t[0]'hz) wx
      rw [hm] at hc
      have HC := Lib.hid hc
      have hnx := fun wx h0 h1 => next_any (w.heap.size + 1) t 0 wx h0 h1 hs
      rw [nextB_in t 0 hz] at hnx
      have HN := Lib.hid hnx
      have hw := fun wx h0 h1 hz hg => word_check (w.heap.size + 1) t wx h0 h1 hz hs hg
      clear hc hnx
      by_cases hr : runN wordB t 0 = t.size
      · rw [run_text t hr] at hw
        have HW := Lib.hid hw
        clear hw
        by_cases hn : n = 0
        · subst hn
          have HF := Lib.hid (show faultOf 1 t 0 = 0 by rw [fault_word 1 t (by omega) hz, if_pos ⟨hm, hr⟩])
          clear hm hr
          go_enter Try.func28, Try.ntmps28
          go_wp2_with (fail)
          go_region_held3 (fun w' => w'.cell? ⟨w.heap.size, 1, none⟩ = some (.string t)) (((try dsimp only); (repeat' apply And.intro) <;> (go_keep; done))) (first | (go_at_call 43; refine (HN.out _ (by simp [go_sem]) (by simp [go_sem])).mono ?_; rintro e wq ⟨rfl, nq, rfl⟩) | (go_at_call 42; refine (HC.out _).mono ?_; rintro e wq ⟨rfl, rfl⟩) | (go_at_call 44; refine (HW.out _ (by simp [go_sem]) (by simp [go_sem]) (by simp [go_sem]) (by simp)).mono ?_; rintro e w1 ⟨rfl, hb⟩; obtain ⟨k1a, k1b, k1c⟩ := own_at hb (b := w.heap.size) (by first | omega | (simp; done) | (simp; omega)); have z2 := hb.size; (try simp only [World.size_alloc, World.size_setCell] at z2)))
          go_wp2_with fail
          go_ret
          refine ⟨by rw [HF.out]; rfl, ?_⟩
          (repeat (first | with_reducible exact hb | with_reducible refine Below.trans ?_ (Below.mono hb ?_) | with_reducible exact Below.refl _ _ | with_reducible refine Below.setCell ?_ ?_ _ | with_reducible refine Below.alloc ?_ ?_ _ | with_reducible refine Below.drew ?_ | with_reducible refine below_drewN ?_ _))
          all_goals (first | omega | (simp; done) | (simp; omega))
        · have i2 : (n == 0) = false := by simpa using hn
          have HF := Lib.hid (show faultOf 1 t n = 3 by unfold faultOf; rw [if_neg (by omega), if_neg h3, if_pos hn])
          clear hn hm hr
          go_enter Try.func28, Try.ntmps28
          go_wp2_with (fail)
          go_region_held3 (fun w' => w'.cell? ⟨w.heap.size, 1, none⟩ = some (.string t)) (((try dsimp only); (repeat' apply And.intro) <;> (go_keep; done))) (first | (go_at_call 43; refine (HN.out _ (by simp [go_sem]) (by simp [go_sem])).mono ?_; rintro e wq ⟨rfl, nq, rfl⟩) | (go_at_call 42; refine (HC.out _).mono ?_; rintro e wq ⟨rfl, rfl⟩) | (go_at_call 44; refine (HW.out _ (by simp [go_sem]) (by simp [go_sem]) (by simp [go_sem]) (by simp)).mono ?_; rintro e w1 ⟨rfl, hb⟩; obtain ⟨k3a, k3b, k3c⟩ := own_at hb (b := w.heap.size) (by first | omega | (simp; done) | (simp; omega)); have z4 := hb.size; (try simp only [World.size_alloc, World.size_setCell] at z4)))
          go_wp2_with fail
          go_ret
          refine ⟨by rw [HF.out]; rfl, ?_⟩
          (repeat (first | with_reducible exact hb | with_reducible refine Below.trans ?_ (Below.mono hb ?_) | with_reducible exact Below.refl _ _ | with_reducible refine Below.setCell ?_ ?_ _ | with_reducible refine Below.alloc ?_ ?_ _ | with_reducible refine Below.drew ?_ | with_reducible refine below_drewN ?_ _))
          all_goals (first | omega | (simp; done) | (simp; omega))
      · have HF := Lib.hid (fault_word_no 1 t n (by omega) (fun _ h => hr h.2))
        have i3 := run_other t hr
        obtain ⟨u, hu⟩ : ∃ u, u = t.extract 0 (runN wordB t 0) := ⟨_, rfl⟩
        rw [← hu] at hw i3
        have HW := Lib.hid hw
        clear hw hm hr hu
        go_enter Try.func28, Try.ntmps28
        go_wp2_with (fail)
        go_region_held3 (fun w' => w'.cell? ⟨w.heap.size, 1, none⟩ = some (.string t)) (((try dsimp only); (repeat' apply And.intro) <;> (go_keep; done))) (first | (go_at_call 43; refine (HN.out _ (by simp [go_sem]) (by simp [go_sem])).mono ?_; rintro e wq ⟨rfl, nq, rfl⟩) | (go_at_call 42; refine (HC.out _).mono ?_; rintro e wq ⟨rfl, rfl⟩) | (go_at_call 44; refine (HW.out _ (by simp [go_sem]) (by simp [go_sem]) (by simp [go_sem]) (by simp)).mono ?_; rintro e w1 ⟨rfl, hb⟩; obtain ⟨k5a, k5b, k5c⟩ := own_at hb (b := w.heap.size) (by first | omega | (simp; done) | (simp; omega)); have z6 := hb.size; (try simp only [World.size_alloc, World.size_setCell] at z6)))
        go_wp2_with fail
        go_ret
        refine ⟨by rw [HF.out]; rfl, ?_⟩
        (repeat (first | with_reducible exact hb | with_reducible refine Below.trans ?_ (Below.mono hb ?_) | with_reducible exact Below.refl _ _ | with_reducible refine Below.setCell ?_ ?_ _ | with_reducible refine Below.alloc ?_ ?_ _ | with_reducible refine Below.drew ?_ | with_reducible refine below_drewN ?_ _))
        all_goals (first | omega | (simp; done) | (simp; omega))
    · have HF := Lib.hid (fault_word_no 1 t n (by omega) (fun hz h => hl ⟨hz, h.1⟩))
      obtain ⟨c, hnc, hcl⟩ : ∃ c : UInt8, nextB t 0 = c ∧ letterB c = false := by
        by_cases hz : 0 < t.size
        · refine ⟨_, nextB_in t 0 hz, ?_⟩
          cases hm : letterB (t[0]'hz)
          · rfl
          · exact absurd ⟨hz, hm⟩ hl
        · exact ⟨_, nextB_out t 0 (by omega), by decide⟩
      have hc := fun wx => letter_any c wx
      rw [hcl] at hc
      have HC := Lib.hid hc
      have hnx := fun wx h0 h1 => next_any (w.heap.size + 1) t 0 wx h0 h1 hs
      rw [hnc] at hnx
      have HN := Lib.hid hnx
      clear hc hnx hnc hcl hl
      go_enter Try.func28, Try.ntmps28
      go_wp2_with (fail)
      go_quiet (first | (go_at_call 43; exact Calls.quiet_of (Calls.mono (HN.out _ (by simp [go_sem]) (by simp [go_sem])) (fun _ _ ⟨h1, h2⟩ => ⟨h1, h2⟩))) | (go_at_call 42; exact Calls.quiet_of_same (Calls.mono (HC.out _) (fun _ _ ⟨h1, h2⟩ => ⟨h1, h2.symm⟩))))
      go_wp2_with fail
      go_ret
      refine ⟨by rw [HF.out]; rfl, ?_⟩
      (repeat (first | with_reducible exact Below.refl _ _ | with_reducible refine Below.setCell ?_ ?_ _ | with_reducible refine Below.alloc ?_ ?_ _ | with_reducible refine Below.drew ?_ | with_reducible refine below_drewN ?_ _))
      all_goals (first | omega | (simp; done) | (simp; omega))
  by_cases h2 : k = 2
  · subst h2
    by_cases hl : ∃ hz : 0 < t.size, letterB (t[0]'hz) = true
    · obtain ⟨hz, hm⟩ := hl
      have hc := fun wx => letter_any (t[0]'hz) wx
      rw [hm] at hc
      have HC := Lib.hid hc
      have hnx := fun wx h0 h1 => next_any (w.heap.size + 1) t 0 wx h0 h1 hs
      rw [nextB_in t 0 hz] at hnx
      have HN := Lib.hid hnx
      have hw := fun wx h0 h1 hz hg => word_check (w.heap.size + 1) t wx h0 h1 hz hs hg
      clear hc hnx
      by_cases hr : runN wordB t 0 = t.size
      · rw [run_text t hr] at hw
        have HW := Lib.hid hw
        clear hw
        by_cases hn : n = 0
        · subst hn
          have HF := Lib.hid (show faultOf 2 t 0 = 0 by rw [fault_word 2 t (by omega) hz, if_pos ⟨hm, hr⟩])
          clear hm hr
          go_enter Try.func28, Try.ntmps28
          go_wp2_with (fail)
          go_region_held3 (fun w' => w'.cell? ⟨w.heap.size, 1, none⟩ = some (.string t)) (((try dsimp only); (repeat' apply And.intro) <;> (go_keep; done))) (first | (go_at_call 43; refine (HN.out _ (by simp [go_sem]) (by simp [go_sem])).mono ?_; rintro e wq ⟨rfl, nq, rfl⟩) | (go_at_call 42; refine (HC.out _).mono ?_; rintro e wq ⟨rfl, rfl⟩) | (go_at_call 44; refine (HW.out _ (by simp [go_sem]) (by simp [go_sem]) (by simp [go_sem]) (by simp)).mono ?_; rintro e w1 ⟨rfl, hb⟩; obtain ⟨k7a, k7b, k7c⟩ := own_at hb (b := w.heap.size) (by first | omega | (simp; done) | (simp; omega)); have z8 := hb.size; (try simp only [World.size_alloc, World.size_setCell] at z8)))
          go_wp2_with fail
          go_ret
          refine ⟨by rw [HF.out]; rfl, ?_⟩
          (repeat (first | with_reducible exact hb | with_reducible refine Below.trans ?_ (Below.mono hb ?_) | with_reducible exact Below.refl _ _ | with_reducible refine Below.setCell ?_ ?_ _ | with_reducible refine Below.alloc ?_ ?_ _ | with_reducible refine Below.drew ?_ | with_reducible refine below_drewN ?_ _))
          all_goals (first | omega | (simp; done) | (simp; omega))
        · have i2 : (n == 0) = false := by simpa using hn
          have HF := Lib.hid (show faultOf 2 t n = 3 by unfold faultOf; rw [if_neg (by omega), if_neg h3, if_pos hn])
          clear hn hm hr
          go_enter Try.func28, Try.ntmps28
          go_wp2_with (fail)
          go_region_held3 (fun w' => w'.cell? ⟨w.heap.size, 1, none⟩ = some (.string t)) (((try dsimp only); (repeat' apply And.intro) <;> (go_keep; done))) (first | (go_at_call 43; refine (HN.out _ (by simp [go_sem]) (by simp [go_sem])).mono ?_; rintro e wq ⟨rfl, nq, rfl⟩) | (go_at_call 42; refine (HC.out _).mono ?_; rintro e wq ⟨rfl, rfl⟩) | (go_at_call 44; refine (HW.out _ (by simp [go_sem]) (by simp [go_sem]) (by simp [go_sem]) (by simp)).mono ?_; rintro e w1 ⟨rfl, hb⟩; obtain ⟨k9a, k9b, k9c⟩ := own_at hb (b := w.heap.size) (by first | omega | (simp; done) | (simp; omega)); have z10 := hb.size; (try simp only [World.size_alloc, World.size_setCell] at z10)))
          go_wp2_with fail
          go_ret
          refine ⟨by rw [HF.out]; rfl, ?_⟩
          (repeat (first | with_reducible exact hb | with_reducible refine Below.trans ?_ (Below.mono hb ?_) | with_reducible exact Below.refl _ _ | with_reducible refine Below.setCell ?_ ?_ _ | with_reducible refine Below.alloc ?_ ?_ _ | with_reducible refine Below.drew ?_ | with_reducible refine below_drewN ?_ _))
          all_goals (first | omega | (simp; done) | (simp; omega))
      · have HF := Lib.hid (fault_word_no 2 t n (by omega) (fun _ h => hr h.2))
        have i3 := run_other t hr
        obtain ⟨u, hu⟩ : ∃ u, u = t.extract 0 (runN wordB t 0) := ⟨_, rfl⟩
        rw [← hu] at hw i3
        have HW := Lib.hid hw
        clear hw hm hr hu
        go_enter Try.func28, Try.ntmps28
        go_wp2_with (fail)
        go_region_held3 (fun w' => w'.cell? ⟨w.heap.size, 1, none⟩ = some (.string t)) (((try dsimp only); (repeat' apply And.intro) <;> (go_keep; done))) (first | (go_at_call 43; refine (HN.out _ (by simp [go_sem]) (by simp [go_sem])).mono ?_; rintro e wq ⟨rfl, nq, rfl⟩) | (go_at_call 42; refine (HC.out _).mono ?_; rintro e wq ⟨rfl, rfl⟩) | (go_at_call 44; refine (HW.out _ (by simp [go_sem]) (by simp [go_sem]) (by simp [go_sem]) (by simp)).mono ?_; rintro e w1 ⟨rfl, hb⟩; obtain ⟨k11a, k11b, k11c⟩ := own_at hb (b := w.heap.size) (by first | omega | (simp; done) | (simp; omega)); have z12 := hb.size; (try simp only [World.size_alloc, World.size_setCell] at z12)))
        go_wp2_with fail
        go_ret
        refine ⟨by rw [HF.out]; rfl, ?_⟩
        (repeat (first | with_reducible exact hb | with_reducible refine Below.trans ?_ (Below.mono hb ?_) | with_reducible exact Below.refl _ _ | with_reducible refine Below.setCell ?_ ?_ _ | with_reducible refine Below.alloc ?_ ?_ _ | with_reducible refine Below.drew ?_ | with_reducible refine below_drewN ?_ _))
        all_goals (first | omega | (simp; done) | (simp; omega))
    · have HF := Lib.hid (fault_word_no 2 t n (by omega) (fun hz h => hl ⟨hz, h.1⟩))
      obtain ⟨c, hnc, hcl⟩ : ∃ c : UInt8, nextB t 0 = c ∧ letterB c = false := by
        by_cases hz : 0 < t.size
        · refine ⟨_, nextB_in t 0 hz, ?_⟩
          cases hm : letterB (t[0]'hz)
          · rfl
          · exact absurd ⟨hz, hm⟩ hl
        · exact ⟨_, nextB_out t 0 (by omega), by decide⟩
      have hc := fun wx => letter_any c wx
      rw [hcl] at hc
      have HC := Lib.hid hc
      have hnx := fun wx h0 h1 => next_any (w.heap.size + 1) t 0 wx h0 h1 hs
      rw [hnc] at hnx
      have HN := Lib.hid hnx
      clear hc hnx hnc hcl hl
      go_enter Try.func28, Try.ntmps28
      go_wp2_with (fail)
      go_quiet (first | (go_at_call 43; exact Calls.quiet_of (Calls.mono (HN.out _ (by simp [go_sem]) (by simp [go_sem])) (fun _ _ ⟨h1, h2⟩ => ⟨h1, h2⟩))) | (go_at_call 42; exact Calls.quiet_of_same (Calls.mono (HC.out _) (fun _ _ ⟨h1, h2⟩ => ⟨h1, h2.symm⟩))))
      go_wp2_with fail
      go_ret
      refine ⟨by rw [HF.out]; rfl, ?_⟩
      (repeat (first | with_reducible exact Below.refl _ _ | with_reducible refine Below.setCell ?_ ?_ _ | with_reducible refine Below.alloc ?_ ?_ _ | with_reducible refine Below.drew ?_ | with_reducible refine below_drewN ?_ _))
      all_goals (first | omega | (simp; done) | (simp; omega))
  · have HF := Lib.hid (show faultOf k t n = 2 by unfold faultOf; rw [if_pos (by omega)])
    have j1 : (k == 1) = false := by simpa using h1
    have j2 : (k == 2) = false := by simpa using h2
    have j3 : (k == 3) = false := by simpa using h3
    have j4 : (k == 4) = false := by simpa using h4
    have j5 : (k == 5) = false := by simpa using h5
    clear h1 h2 h3 h4 h5
    go_enter Try.func28, Try.ntmps28
    go_wp2_with (fail)
    go_ret
    refine ⟨by rw [HF.out]; rfl, ?_⟩
    (repeat (first | with_reducible exact Below.refl _ _ | with_reducible refine Below.setCell ?_ ?_ _ | with_reducible refine Below.alloc ?_ ?_ _ | with_reducible refine Below.drew ?_ | with_reducible refine below_drewN ?_ _))
    all_goals (first | omega | (simp; done) | (simp; omega))
end Go.Proofs.Ytdofgjpgppaghaa

/- lmtp.Check, walked: P12.1: the step that knows who sends. -/
import Derived.Test.YtddiolgeaefieaaDoorSes1
namespace Go.Proofs.YtddiolgeaefieaaDoor
open Go.RowKit
set_option linter.unusedSimpArgs false
set_option linter.unusedVariables false
set_option maxRecDepth 20000 in
set_option maxHeartbeats 1000000 in
theorem lmtpCheck_2 (s : Ses) (v : Value) (w : World) (h : RF adrF w (· < w.heap.size) v s.tos) (hs : s.step = 2) (h5 : s.tos.length ≤ 5) (hz : s.text.size ≤ 2000) (hf : s.fr.l.size ≤ 1048576 ∧ s.fr.d.size ≤ 1048576) (h0 : Lib0 w) :
    Calls Tryd.prog 19 #[s.val v] w fun e w' => e = .returned (.int .i64 (sesE s)) ∧ Below w.heap.size w w' := by
  obtain ⟨A, c, rfl, h⟩ := h.ex
  have hm := h.bound
  unfold maxLen at hm
  have H := Lib.hid h
  clear h
  have HO := Lib.hid (fun hh => sesE_no (s := s) hh)
  have HY := Lib.hid (fun hh => sesE_ok (s := s) hh)
  have HC := Lib.hid (fun wx hx => whoCheck_any s.fr wx hf hx)
  have H0 := Lib.hid h0
  clear h0 hf
  by_cases ha : addrE s.fr = 0
  · rw [ha] at HC
    have HA := Lib.hid ha
    clear ha
    obtain ⟨step, ⟨fl, fd⟩, tos, text, large⟩ := s
    unfold Ses.val
    dsimp only at *
    subst hs
    unfold Adr.val at HC
    dsimp only at HC
    by_cases t0 : tos.length = 0
    · have te : tos = [] := List.eq_nil_of_length_eq_zero t0
      subst te
      by_cases x0 : text = ByteArray.empty
      · subst x0
        cases large
        · have HF := Lib.hid (HY.out ⟨by simp, by simp, by simp, by show ByteArray.empty.size ≤ 2000; decide, fun _ _ => HA.out, by intro a; simp at a, by intro a b; simp at a, fun _ => rfl, fun _ => ⟨rfl, rfl⟩⟩)
          clear HO HY
          go_enter Tryd.func19, Tryd.ntmps19
          go_wp2_with fail
          refine (HC.out _ ?_).mono ?_
          · exact H0.out.below ((Below.alloc (Below.refl _ _) (Nat.le_refl _) _).alloc (by simp) _)
          rintro e w1 ⟨rfl, hb1⟩
          obtain ⟨k1a, k1b, k1c⟩ := own_at hb1 (b := w.heap.size) (by first | omega | (simp; done) | (simp; omega)); obtain ⟨k2a, k2b, k2c⟩ := own_at hb1 (b := w.heap.size + 1) (by first | omega | (simp; done) | (simp; omega)); have z3 := hb1.size; (try simp only [World.size_alloc, World.size_setCell] at z3)
          go_wp2_with fail
          go_ret
          refine ⟨by rw [HF.out]; rfl, ?_⟩
          (repeat (first | with_reducible exact hb1 | with_reducible refine Below.trans ?_ (Below.mono hb1 ?_) | with_reducible exact Below.refl _ _ | with_reducible refine Below.setCell ?_ ?_ _ | with_reducible refine Below.alloc ?_ ?_ _ | with_reducible refine Below.drew ?_ | with_reducible refine below_drewN ?_ _))
          all_goals (first | omega | (simp; done) | (simp; omega))
        · have HF := Lib.hid (HO.out fun hh => by have := (hh.tx (by simp)).2; cases this)
          clear HO HY
          go_enter Tryd.func19, Tryd.ntmps19
          go_wp2_with fail
          refine (HC.out _ ?_).mono ?_
          · exact H0.out.below ((Below.alloc (Below.refl _ _) (Nat.le_refl _) _).alloc (by simp) _)
          rintro e w1 ⟨rfl, hb1⟩
          obtain ⟨k4a, k4b, k4c⟩ := own_at hb1 (b := w.heap.size) (by first | omega | (simp; done) | (simp; omega)); obtain ⟨k5a, k5b, k5c⟩ := own_at hb1 (b := w.heap.size + 1) (by first | omega | (simp; done) | (simp; omega)); have z6 := hb1.size; (try simp only [World.size_alloc, World.size_setCell] at z6)
          go_wp2_with fail
          go_ret
          refine ⟨by rw [HF.out]; rfl, ?_⟩
          (repeat (first | with_reducible exact hb1 | with_reducible refine Below.trans ?_ (Below.mono hb1 ?_) | with_reducible exact Below.refl _ _ | with_reducible refine Below.setCell ?_ ?_ _ | with_reducible refine Below.alloc ?_ ?_ _ | with_reducible refine Below.drew ?_ | with_reducible refine below_drewN ?_ _))
          all_goals (first | omega | (simp; done) | (simp; omega))
      · have HF := Lib.hid (HO.out fun hh => x0 (hh.tx (by simp)).1)
        obtain ⟨q1, q2⟩ := ne_empty x0
        clear HO HY x0
        go_enter Tryd.func19, Tryd.ntmps19
        go_wp2_with fail
        refine (HC.out _ ?_).mono ?_
        · exact H0.out.below ((Below.alloc (Below.refl _ _) (Nat.le_refl _) _).alloc (by simp) _)
        rintro e w1 ⟨rfl, hb1⟩
        obtain ⟨k7a, k7b, k7c⟩ := own_at hb1 (b := w.heap.size) (by first | omega | (simp; done) | (simp; omega)); obtain ⟨k8a, k8b, k8c⟩ := own_at hb1 (b := w.heap.size + 1) (by first | omega | (simp; done) | (simp; omega)); have z9 := hb1.size; (try simp only [World.size_alloc, World.size_setCell] at z9)
        go_wp2_with fail
        go_ret
        refine ⟨by rw [HF.out]; rfl, ?_⟩
        (repeat (first | with_reducible exact hb1 | with_reducible refine Below.trans ?_ (Below.mono hb1 ?_) | with_reducible exact Below.refl _ _ | with_reducible refine Below.setCell ?_ ?_ _ | with_reducible refine Below.alloc ?_ ?_ _ | with_reducible refine Below.drew ?_ | with_reducible refine below_drewN ?_ _))
        all_goals (first | omega | (simp; done) | (simp; omega))
    · have HF := Lib.hid (HO.out fun hh => t0 (congrArg List.length (hh.to0 (by simp))))
      have t1 : (0 : Int) < tos.length := by omega
      clear HO HY t0
      go_enter Tryd.func19, Tryd.ntmps19
      go_wp2_with fail
      refine (HC.out _ ?_).mono ?_
      · exact H0.out.below ((Below.alloc (Below.refl _ _) (Nat.le_refl _) _).alloc (by simp) _)
      rintro e w1 ⟨rfl, hb1⟩
      obtain ⟨k10a, k10b, k10c⟩ := own_at hb1 (b := w.heap.size) (by first | omega | (simp; done) | (simp; omega)); obtain ⟨k11a, k11b, k11c⟩ := own_at hb1 (b := w.heap.size + 1) (by first | omega | (simp; done) | (simp; omega)); have z12 := hb1.size; (try simp only [World.size_alloc, World.size_setCell] at z12)
      go_wp2_with fail
      go_ret
      refine ⟨by rw [HF.out]; rfl, ?_⟩
      (repeat (first | with_reducible exact hb1 | with_reducible refine Below.trans ?_ (Below.mono hb1 ?_) | with_reducible exact Below.refl _ _ | with_reducible refine Below.setCell ?_ ?_ _ | with_reducible refine Below.alloc ?_ ?_ _ | with_reducible refine Below.drew ?_ | with_reducible refine below_drewN ?_ _))
      all_goals (first | omega | (simp; done) | (simp; omega))
  · have HF := Lib.hid (HO.out fun hh => ha (hh.fr1 (by rw [hs]; decide) (by rw [hs]; decide)))
    have ha' : (addrE s.fr == 0) = false := beq_false_of_ne ha
    clear HO HY
    generalize addrE s.fr = f at *
    obtain ⟨step, ⟨fl, fd⟩, tos, text, large⟩ := s
    unfold Ses.val
    dsimp only at *
    subst hs
    unfold Adr.val at HC
    dsimp only at HC
    go_enter Tryd.func19, Tryd.ntmps19
    go_wp2_with fail
    refine (HC.out _ ?_).mono ?_
    · exact H0.out.below ((Below.alloc (Below.refl _ _) (Nat.le_refl _) _).alloc (by simp) _)
    rintro e w1 ⟨rfl, hb1⟩
    obtain ⟨k13a, k13b, k13c⟩ := own_at hb1 (b := w.heap.size) (by first | omega | (simp; done) | (simp; omega)); obtain ⟨k14a, k14b, k14c⟩ := own_at hb1 (b := w.heap.size + 1) (by first | omega | (simp; done) | (simp; omega)); have z15 := hb1.size; (try simp only [World.size_alloc, World.size_setCell] at z15)
    go_wp2_with fail
    go_ret
    refine ⟨by rw [HF.out]; rfl, ?_⟩
    (repeat (first | with_reducible exact hb1 | with_reducible refine Below.trans ?_ (Below.mono hb1 ?_) | with_reducible exact Below.refl _ _ | with_reducible refine Below.setCell ?_ ?_ _ | with_reducible refine Below.alloc ?_ ?_ _ | with_reducible refine Below.drew ?_ | with_reducible refine below_drewN ?_ _))
    all_goals (first | omega | (simp; done) | (simp; omega))
end Go.Proofs.YtddiolgeaefieaaDoor

/- SessionFault, walked: P12.1. -/
import Derived.Test.YtddiolgeaefieaaDoorSes1
namespace Go.Proofs.YtddiolgeaefieaaDoor
open Go.RowKit
set_option linter.unusedSimpArgs false
set_option linter.unusedVariables false
set_option maxRecDepth 20000 in
set_option maxHeartbeats 2000000 in
theorem sesFault_range (s : Ses) (v : Value) (w : World) (h : RF adrF w (· < w.heap.size) v s.tos) (hz : s.text.size ≤ 1048576) (hb : s.step < 0 ∨ 5 < s.step ∨ 5 < s.tos.length ∨ 2000 < s.text.size) :
    Calls Tryd.prog 21 #[s.val v] w fun e w' => e = .returned (.int .i64 (sesE s)) ∧ Below w.heap.size w w' := by
  have HF := Lib.hid (sesE_no (s := s) fun h => by have := h.lo; have := h.hi; have := h.len; have := h.size; omega)
  obtain ⟨A, c, rfl, h⟩ := h.ex
  have hm := h.bound
  unfold maxLen at hm
  clear h
  obtain ⟨step, ⟨fl, fd⟩, tos, text, large⟩ := s
  unfold Ses.val
  dsimp only at *
  by_cases c1 : step < 0
  · go_enter Tryd.func21, Tryd.ntmps21
    go_wp2_with (go_at_call 48; first | (refine (In_yes _ _ _ _ ?_ ?_).mono ?_; omega; omega; rintro e w' ⟨rfl, rfl⟩) | (refine (In_no _ _ _ _ ?_).mono ?_; omega; rintro e w' ⟨rfl, rfl⟩))
    go_ret
    refine ⟨by rw [HF.out]; rfl, ?_⟩
    (repeat (first | with_reducible exact Below.refl _ _ | with_reducible refine Below.setCell ?_ ?_ _ | with_reducible refine Below.alloc ?_ ?_ _ | with_reducible refine Below.drew ?_ | with_reducible refine below_drewN ?_ _))
    all_goals (first | omega | (simp; done) | (simp; omega))
  by_cases c2 : 5 < step
  · go_enter Tryd.func21, Tryd.ntmps21
    go_wp2_with (go_at_call 48; first | (refine (In_yes _ _ _ _ ?_ ?_).mono ?_; omega; omega; rintro e w' ⟨rfl, rfl⟩) | (refine (In_no _ _ _ _ ?_).mono ?_; omega; rintro e w' ⟨rfl, rfl⟩))
    go_ret
    refine ⟨by rw [HF.out]; rfl, ?_⟩
    (repeat (first | with_reducible exact Below.refl _ _ | with_reducible refine Below.setCell ?_ ?_ _ | with_reducible refine Below.alloc ?_ ?_ _ | with_reducible refine Below.drew ?_ | with_reducible refine below_drewN ?_ _))
    all_goals (first | omega | (simp; done) | (simp; omega))
  by_cases c3 : (5 : Int) < tos.length
  · go_enter Tryd.func21, Tryd.ntmps21
    go_wp2_with (go_at_call 48; first | (refine (In_yes _ _ _ _ ?_ ?_).mono ?_; omega; omega; rintro e w' ⟨rfl, rfl⟩) | (refine (In_no _ _ _ _ ?_).mono ?_; omega; rintro e w' ⟨rfl, rfl⟩))
    go_ret
    refine ⟨by rw [HF.out]; rfl, ?_⟩
    (repeat (first | with_reducible exact Below.refl _ _ | with_reducible refine Below.setCell ?_ ?_ _ | with_reducible refine Below.alloc ?_ ?_ _ | with_reducible refine Below.drew ?_ | with_reducible refine below_drewN ?_ _))
    all_goals (first | omega | (simp; done) | (simp; omega))
  · have c4 : (2000 : Int) < text.size := by omega
    clear hb
    go_enter Tryd.func21, Tryd.ntmps21
    go_wp2_with (go_at_call 48; first | (refine (In_yes _ _ _ _ ?_ ?_).mono ?_; omega; omega; rintro e w' ⟨rfl, rfl⟩) | (refine (In_no _ _ _ _ ?_).mono ?_; omega; rintro e w' ⟨rfl, rfl⟩))
    go_ret
    refine ⟨by rw [HF.out]; rfl, ?_⟩
    (repeat (first | with_reducible exact Below.refl _ _ | with_reducible refine Below.setCell ?_ ?_ _ | with_reducible refine Below.alloc ?_ ?_ _ | with_reducible refine Below.drew ?_ | with_reducible refine below_drewN ?_ _))
    all_goals (first | omega | (simp; done) | (simp; omega))
set_option maxRecDepth 20000 in
set_option maxHeartbeats 2000000 in
theorem sesFault_0 (s : Ses) (v : Value) (w : World) (h : RF adrF w (· < w.heap.size) v s.tos) (hs : s.step = 0) (h5 : s.tos.length ≤ 5) (hz : s.text.size ≤ 2000) :
    Calls Tryd.prog 21 #[s.val v] w fun e w' => e = .returned (.int .i64 (sesE s)) ∧ Below w.heap.size w w' := by
  obtain ⟨A, c, rfl, h⟩ := h.ex
  have hm := h.bound
  unfold maxLen at hm
  have H := Lib.hid h
  clear h
  have HO := Lib.hid (fun hh => sesE_no (s := s) hh)
  have HY := Lib.hid (fun hh => sesE_ok (s := s) hh)
  obtain ⟨step, ⟨fl, fd⟩, tos, text, large⟩ := s
  unfold Ses.val
  dsimp only at *
  subst hs
  by_cases f0 : fl = ByteArray.empty
  · subst f0
    by_cases f1 : fd = ByteArray.empty
    · subst f1
      by_cases t0 : tos.length = 0
      · have te : tos = [] := List.eq_nil_of_length_eq_zero t0
        subst te
        by_cases x0 : text = ByteArray.empty
        · subst x0
          cases large
          · have HF := Lib.hid (HY.out ⟨by decide, by decide, by simp, by decide, by intro a b; simp at a b, fun _ => rfl, by intro a b; simp at a b, fun _ => rfl, fun _ => ⟨rfl, rfl⟩⟩)
            clear HO HY
            go_enter Tryd.func21, Tryd.ntmps21
            go_wp2_with (go_at_call 48; first | (refine (In_yes _ _ _ _ ?_ ?_).mono ?_; omega; omega; rintro e w' ⟨rfl, rfl⟩) | (refine (In_no _ _ _ _ ?_).mono ?_; omega; rintro e w' ⟨rfl, rfl⟩))
            go_loop [5] (fun i => i = .int .i64 0) (fun _ => 0)
            case atStart => rfl
            case round =>
              subst hrel
              go_wp2_with fail
              go_ret
              refine ⟨by rw [HF.out]; rfl, ?_⟩
              (repeat (first | with_reducible exact Below.refl _ _ | with_reducible refine Below.setCell ?_ ?_ _ | with_reducible refine Below.alloc ?_ ?_ _ | with_reducible refine Below.drew ?_ | with_reducible refine below_drewN ?_ _))
              all_goals (first | omega | (simp; done) | (simp; omega))
          · have HF := Lib.hid (HO.out fun hh => by have := (hh.tx (by simp)).2; cases this)
            clear HO HY
            go_enter Tryd.func21, Tryd.ntmps21
            go_wp2_with (go_at_call 48; first | (refine (In_yes _ _ _ _ ?_ ?_).mono ?_; omega; omega; rintro e w' ⟨rfl, rfl⟩) | (refine (In_no _ _ _ _ ?_).mono ?_; omega; rintro e w' ⟨rfl, rfl⟩))
            go_loop [5] (fun i => i = .int .i64 0) (fun _ => 0)
            case atStart => rfl
            case round =>
              subst hrel
              go_wp2_with fail
              go_ret
              refine ⟨by rw [HF.out]; rfl, ?_⟩
              (repeat (first | with_reducible exact Below.refl _ _ | with_reducible refine Below.setCell ?_ ?_ _ | with_reducible refine Below.alloc ?_ ?_ _ | with_reducible refine Below.drew ?_ | with_reducible refine below_drewN ?_ _))
              all_goals (first | omega | (simp; done) | (simp; omega))
        · have HF := Lib.hid (HO.out fun hh => x0 (hh.tx (by simp)).1)
          obtain ⟨q1, q2⟩ := ne_empty x0
          clear HO HY x0
          go_enter Tryd.func21, Tryd.ntmps21
          go_wp2_with (go_at_call 48; first | (refine (In_yes _ _ _ _ ?_ ?_).mono ?_; omega; omega; rintro e w' ⟨rfl, rfl⟩) | (refine (In_no _ _ _ _ ?_).mono ?_; omega; rintro e w' ⟨rfl, rfl⟩))
          go_loop [5] (fun i => i = .int .i64 0) (fun _ => 0)
          case atStart => rfl
          case round =>
            subst hrel
            go_wp2_with fail
            go_ret
            refine ⟨by rw [HF.out]; rfl, ?_⟩
            (repeat (first | with_reducible exact Below.refl _ _ | with_reducible refine Below.setCell ?_ ?_ _ | with_reducible refine Below.alloc ?_ ?_ _ | with_reducible refine Below.drew ?_ | with_reducible refine below_drewN ?_ _))
            all_goals (first | omega | (simp; done) | (simp; omega))
      · have HF := Lib.hid (HO.out fun hh => t0 (congrArg List.length (hh.to0 (by simp))))
        have t1 : (0 : Int) < tos.length := by omega
        clear HO HY t0
        go_enter Tryd.func21, Tryd.ntmps21
        go_wp2_with (go_at_call 48; first | (refine (In_yes _ _ _ _ ?_ ?_).mono ?_; omega; omega; rintro e w' ⟨rfl, rfl⟩) | (refine (In_no _ _ _ _ ?_).mono ?_; omega; rintro e w' ⟨rfl, rfl⟩))
        go_ret
        refine ⟨by rw [HF.out]; rfl, ?_⟩
        (repeat (first | with_reducible exact Below.refl _ _ | with_reducible refine Below.setCell ?_ ?_ _ | with_reducible refine Below.alloc ?_ ?_ _ | with_reducible refine Below.drew ?_ | with_reducible refine below_drewN ?_ _))
        all_goals (first | omega | (simp; done) | (simp; omega))
    · have HF := Lib.hid (HO.out fun hh => f1 (congrArg Adr.d (hh.fr0 (by simp))))
      obtain ⟨q1, q2⟩ := ne_empty f1
      clear HO HY f1
      go_enter Tryd.func21, Tryd.ntmps21
      go_wp2_with (go_at_call 48; first | (refine (In_yes _ _ _ _ ?_ ?_).mono ?_; omega; omega; rintro e w' ⟨rfl, rfl⟩) | (refine (In_no _ _ _ _ ?_).mono ?_; omega; rintro e w' ⟨rfl, rfl⟩))
      go_ret
      refine ⟨by rw [HF.out]; rfl, ?_⟩
      (repeat (first | with_reducible exact Below.refl _ _ | with_reducible refine Below.setCell ?_ ?_ _ | with_reducible refine Below.alloc ?_ ?_ _ | with_reducible refine Below.drew ?_ | with_reducible refine below_drewN ?_ _))
      all_goals (first | omega | (simp; done) | (simp; omega))
  · have HF := Lib.hid (HO.out fun hh => f0 (congrArg Adr.l (hh.fr0 (by simp))))
    obtain ⟨q1, q2⟩ := ne_empty f0
    clear HO HY f0
    go_enter Tryd.func21, Tryd.ntmps21
    go_wp2_with (go_at_call 48; first | (refine (In_yes _ _ _ _ ?_ ?_).mono ?_; omega; omega; rintro e w' ⟨rfl, rfl⟩) | (refine (In_no _ _ _ _ ?_).mono ?_; omega; rintro e w' ⟨rfl, rfl⟩))
    go_ret
    refine ⟨by rw [HF.out]; rfl, ?_⟩
    (repeat (first | with_reducible exact Below.refl _ _ | with_reducible refine Below.setCell ?_ ?_ _ | with_reducible refine Below.alloc ?_ ?_ _ | with_reducible refine Below.drew ?_ | with_reducible refine below_drewN ?_ _))
    all_goals (first | omega | (simp; done) | (simp; omega))
set_option maxRecDepth 20000 in
set_option maxHeartbeats 2000000 in
theorem sesFault_1 (s : Ses) (v : Value) (w : World) (h : RF adrF w (· < w.heap.size) v s.tos) (hs : s.step = 1) (h5 : s.tos.length ≤ 5) (hz : s.text.size ≤ 2000) :
    Calls Tryd.prog 21 #[s.val v] w fun e w' => e = .returned (.int .i64 (sesE s)) ∧ Below w.heap.size w w' := by
  obtain ⟨A, c, rfl, h⟩ := h.ex
  have hm := h.bound
  unfold maxLen at hm
  have H := Lib.hid h
  clear h
  have HO := Lib.hid (fun hh => sesE_no (s := s) hh)
  have HY := Lib.hid (fun hh => sesE_ok (s := s) hh)
  obtain ⟨step, ⟨fl, fd⟩, tos, text, large⟩ := s
  unfold Ses.val
  dsimp only at *
  subst hs
  by_cases f0 : fl = ByteArray.empty
  · subst f0
    by_cases f1 : fd = ByteArray.empty
    · subst f1
      by_cases t0 : tos.length = 0
      · have te : tos = [] := List.eq_nil_of_length_eq_zero t0
        subst te
        by_cases x0 : text = ByteArray.empty
        · subst x0
          cases large
          · have HF := Lib.hid (HY.out ⟨by decide, by decide, by simp, by decide, by intro a b; simp at a b, fun _ => rfl, by intro a b; simp at a b, fun _ => rfl, fun _ => ⟨rfl, rfl⟩⟩)
            clear HO HY
            go_enter Tryd.func21, Tryd.ntmps21
            go_wp2_with (go_at_call 48; first | (refine (In_yes _ _ _ _ ?_ ?_).mono ?_; omega; omega; rintro e w' ⟨rfl, rfl⟩) | (refine (In_no _ _ _ _ ?_).mono ?_; omega; rintro e w' ⟨rfl, rfl⟩))
            go_loop [5] (fun i => i = .int .i64 0) (fun _ => 0)
            case atStart => rfl
            case round =>
              subst hrel
              go_wp2_with fail
              go_ret
              refine ⟨by rw [HF.out]; rfl, ?_⟩
              (repeat (first | with_reducible exact Below.refl _ _ | with_reducible refine Below.setCell ?_ ?_ _ | with_reducible refine Below.alloc ?_ ?_ _ | with_reducible refine Below.drew ?_ | with_reducible refine below_drewN ?_ _))
              all_goals (first | omega | (simp; done) | (simp; omega))
          · have HF := Lib.hid (HO.out fun hh => by have := (hh.tx (by simp)).2; cases this)
            clear HO HY
            go_enter Tryd.func21, Tryd.ntmps21
            go_wp2_with (go_at_call 48; first | (refine (In_yes _ _ _ _ ?_ ?_).mono ?_; omega; omega; rintro e w' ⟨rfl, rfl⟩) | (refine (In_no _ _ _ _ ?_).mono ?_; omega; rintro e w' ⟨rfl, rfl⟩))
            go_loop [5] (fun i => i = .int .i64 0) (fun _ => 0)
            case atStart => rfl
            case round =>
              subst hrel
              go_wp2_with fail
              go_ret
              refine ⟨by rw [HF.out]; rfl, ?_⟩
              (repeat (first | with_reducible exact Below.refl _ _ | with_reducible refine Below.setCell ?_ ?_ _ | with_reducible refine Below.alloc ?_ ?_ _ | with_reducible refine Below.drew ?_ | with_reducible refine below_drewN ?_ _))
              all_goals (first | omega | (simp; done) | (simp; omega))
        · have HF := Lib.hid (HO.out fun hh => x0 (hh.tx (by simp)).1)
          obtain ⟨q1, q2⟩ := ne_empty x0
          clear HO HY x0
          go_enter Tryd.func21, Tryd.ntmps21
          go_wp2_with (go_at_call 48; first | (refine (In_yes _ _ _ _ ?_ ?_).mono ?_; omega; omega; rintro e w' ⟨rfl, rfl⟩) | (refine (In_no _ _ _ _ ?_).mono ?_; omega; rintro e w' ⟨rfl, rfl⟩))
          go_loop [5] (fun i => i = .int .i64 0) (fun _ => 0)
          case atStart => rfl
          case round =>
            subst hrel
            go_wp2_with fail
            go_ret
            refine ⟨by rw [HF.out]; rfl, ?_⟩
            (repeat (first | with_reducible exact Below.refl _ _ | with_reducible refine Below.setCell ?_ ?_ _ | with_reducible refine Below.alloc ?_ ?_ _ | with_reducible refine Below.drew ?_ | with_reducible refine below_drewN ?_ _))
            all_goals (first | omega | (simp; done) | (simp; omega))
      · have HF := Lib.hid (HO.out fun hh => t0 (congrArg List.length (hh.to0 (by simp))))
        have t1 : (0 : Int) < tos.length := by omega
        clear HO HY t0
        go_enter Tryd.func21, Tryd.ntmps21
        go_wp2_with (go_at_call 48; first | (refine (In_yes _ _ _ _ ?_ ?_).mono ?_; omega; omega; rintro e w' ⟨rfl, rfl⟩) | (refine (In_no _ _ _ _ ?_).mono ?_; omega; rintro e w' ⟨rfl, rfl⟩))
        go_ret
        refine ⟨by rw [HF.out]; rfl, ?_⟩
        (repeat (first | with_reducible exact Below.refl _ _ | with_reducible refine Below.setCell ?_ ?_ _ | with_reducible refine Below.alloc ?_ ?_ _ | with_reducible refine Below.drew ?_ | with_reducible refine below_drewN ?_ _))
        all_goals (first | omega | (simp; done) | (simp; omega))
    · have HF := Lib.hid (HO.out fun hh => f1 (congrArg Adr.d (hh.fr0 (by simp))))
      obtain ⟨q1, q2⟩ := ne_empty f1
      clear HO HY f1
      go_enter Tryd.func21, Tryd.ntmps21
      go_wp2_with (go_at_call 48; first | (refine (In_yes _ _ _ _ ?_ ?_).mono ?_; omega; omega; rintro e w' ⟨rfl, rfl⟩) | (refine (In_no _ _ _ _ ?_).mono ?_; omega; rintro e w' ⟨rfl, rfl⟩))
      go_ret
      refine ⟨by rw [HF.out]; rfl, ?_⟩
      (repeat (first | with_reducible exact Below.refl _ _ | with_reducible refine Below.setCell ?_ ?_ _ | with_reducible refine Below.alloc ?_ ?_ _ | with_reducible refine Below.drew ?_ | with_reducible refine below_drewN ?_ _))
      all_goals (first | omega | (simp; done) | (simp; omega))
  · have HF := Lib.hid (HO.out fun hh => f0 (congrArg Adr.l (hh.fr0 (by simp))))
    obtain ⟨q1, q2⟩ := ne_empty f0
    clear HO HY f0
    go_enter Tryd.func21, Tryd.ntmps21
    go_wp2_with (go_at_call 48; first | (refine (In_yes _ _ _ _ ?_ ?_).mono ?_; omega; omega; rintro e w' ⟨rfl, rfl⟩) | (refine (In_no _ _ _ _ ?_).mono ?_; omega; rintro e w' ⟨rfl, rfl⟩))
    go_ret
    refine ⟨by rw [HF.out]; rfl, ?_⟩
    (repeat (first | with_reducible exact Below.refl _ _ | with_reducible refine Below.setCell ?_ ?_ _ | with_reducible refine Below.alloc ?_ ?_ _ | with_reducible refine Below.drew ?_ | with_reducible refine below_drewN ?_ _))
    all_goals (first | omega | (simp; done) | (simp; omega))
set_option maxRecDepth 20000 in
set_option maxHeartbeats 2000000 in
theorem sesFault_5 (s : Ses) (v : Value) (w : World) (h : RF adrF w (· < w.heap.size) v s.tos) (hs : s.step = 5) (h5 : s.tos.length ≤ 5) (hz : s.text.size ≤ 2000) :
    Calls Tryd.prog 21 #[s.val v] w fun e w' => e = .returned (.int .i64 (sesE s)) ∧ Below w.heap.size w w' := by
  obtain ⟨A, c, rfl, h⟩ := h.ex
  have hm := h.bound
  unfold maxLen at hm
  have H := Lib.hid h
  clear h
  have HO := Lib.hid (fun hh => sesE_no (s := s) hh)
  have HY := Lib.hid (fun hh => sesE_ok (s := s) hh)
  obtain ⟨step, ⟨fl, fd⟩, tos, text, large⟩ := s
  unfold Ses.val
  dsimp only at *
  subst hs
  by_cases f0 : fl = ByteArray.empty
  · subst f0
    by_cases f1 : fd = ByteArray.empty
    · subst f1
      by_cases t0 : tos.length = 0
      · have te : tos = [] := List.eq_nil_of_length_eq_zero t0
        subst te
        by_cases x0 : text = ByteArray.empty
        · subst x0
          cases large
          · have HF := Lib.hid (HY.out ⟨by decide, by decide, by simp, by decide, by intro a b; simp at a b, fun _ => rfl, by intro a b; simp at a b, fun _ => rfl, fun _ => ⟨rfl, rfl⟩⟩)
            clear HO HY
            go_enter Tryd.func21, Tryd.ntmps21
            go_wp2_with (go_at_call 48; first | (refine (In_yes _ _ _ _ ?_ ?_).mono ?_; omega; omega; rintro e w' ⟨rfl, rfl⟩) | (refine (In_no _ _ _ _ ?_).mono ?_; omega; rintro e w' ⟨rfl, rfl⟩))
            go_loop [5] (fun i => i = .int .i64 0) (fun _ => 0)
            case atStart => rfl
            case round =>
              subst hrel
              go_wp2_with fail
              go_ret
              refine ⟨by rw [HF.out]; rfl, ?_⟩
              (repeat (first | with_reducible exact Below.refl _ _ | with_reducible refine Below.setCell ?_ ?_ _ | with_reducible refine Below.alloc ?_ ?_ _ | with_reducible refine Below.drew ?_ | with_reducible refine below_drewN ?_ _))
              all_goals (first | omega | (simp; done) | (simp; omega))
          · have HF := Lib.hid (HO.out fun hh => by have := (hh.tx (by simp)).2; cases this)
            clear HO HY
            go_enter Tryd.func21, Tryd.ntmps21
            go_wp2_with (go_at_call 48; first | (refine (In_yes _ _ _ _ ?_ ?_).mono ?_; omega; omega; rintro e w' ⟨rfl, rfl⟩) | (refine (In_no _ _ _ _ ?_).mono ?_; omega; rintro e w' ⟨rfl, rfl⟩))
            go_loop [5] (fun i => i = .int .i64 0) (fun _ => 0)
            case atStart => rfl
            case round =>
              subst hrel
              go_wp2_with fail
              go_ret
              refine ⟨by rw [HF.out]; rfl, ?_⟩
              (repeat (first | with_reducible exact Below.refl _ _ | with_reducible refine Below.setCell ?_ ?_ _ | with_reducible refine Below.alloc ?_ ?_ _ | with_reducible refine Below.drew ?_ | with_reducible refine below_drewN ?_ _))
              all_goals (first | omega | (simp; done) | (simp; omega))
        · have HF := Lib.hid (HO.out fun hh => x0 (hh.tx (by simp)).1)
          obtain ⟨q1, q2⟩ := ne_empty x0
          clear HO HY x0
          go_enter Tryd.func21, Tryd.ntmps21
          go_wp2_with (go_at_call 48; first | (refine (In_yes _ _ _ _ ?_ ?_).mono ?_; omega; omega; rintro e w' ⟨rfl, rfl⟩) | (refine (In_no _ _ _ _ ?_).mono ?_; omega; rintro e w' ⟨rfl, rfl⟩))
          go_loop [5] (fun i => i = .int .i64 0) (fun _ => 0)
          case atStart => rfl
          case round =>
            subst hrel
            go_wp2_with fail
            go_ret
            refine ⟨by rw [HF.out]; rfl, ?_⟩
            (repeat (first | with_reducible exact Below.refl _ _ | with_reducible refine Below.setCell ?_ ?_ _ | with_reducible refine Below.alloc ?_ ?_ _ | with_reducible refine Below.drew ?_ | with_reducible refine below_drewN ?_ _))
            all_goals (first | omega | (simp; done) | (simp; omega))
      · have HF := Lib.hid (HO.out fun hh => t0 (congrArg List.length (hh.to0 (by simp))))
        have t1 : (0 : Int) < tos.length := by omega
        clear HO HY t0
        go_enter Tryd.func21, Tryd.ntmps21
        go_wp2_with (go_at_call 48; first | (refine (In_yes _ _ _ _ ?_ ?_).mono ?_; omega; omega; rintro e w' ⟨rfl, rfl⟩) | (refine (In_no _ _ _ _ ?_).mono ?_; omega; rintro e w' ⟨rfl, rfl⟩))
        go_ret
        refine ⟨by rw [HF.out]; rfl, ?_⟩
        (repeat (first | with_reducible exact Below.refl _ _ | with_reducible refine Below.setCell ?_ ?_ _ | with_reducible refine Below.alloc ?_ ?_ _ | with_reducible refine Below.drew ?_ | with_reducible refine below_drewN ?_ _))
        all_goals (first | omega | (simp; done) | (simp; omega))
    · have HF := Lib.hid (HO.out fun hh => f1 (congrArg Adr.d (hh.fr0 (by simp))))
      obtain ⟨q1, q2⟩ := ne_empty f1
      clear HO HY f1
      go_enter Tryd.func21, Tryd.ntmps21
      go_wp2_with (go_at_call 48; first | (refine (In_yes _ _ _ _ ?_ ?_).mono ?_; omega; omega; rintro e w' ⟨rfl, rfl⟩) | (refine (In_no _ _ _ _ ?_).mono ?_; omega; rintro e w' ⟨rfl, rfl⟩))
      go_ret
      refine ⟨by rw [HF.out]; rfl, ?_⟩
      (repeat (first | with_reducible exact Below.refl _ _ | with_reducible refine Below.setCell ?_ ?_ _ | with_reducible refine Below.alloc ?_ ?_ _ | with_reducible refine Below.drew ?_ | with_reducible refine below_drewN ?_ _))
      all_goals (first | omega | (simp; done) | (simp; omega))
  · have HF := Lib.hid (HO.out fun hh => f0 (congrArg Adr.l (hh.fr0 (by simp))))
    obtain ⟨q1, q2⟩ := ne_empty f0
    clear HO HY f0
    go_enter Tryd.func21, Tryd.ntmps21
    go_wp2_with (go_at_call 48; first | (refine (In_yes _ _ _ _ ?_ ?_).mono ?_; omega; omega; rintro e w' ⟨rfl, rfl⟩) | (refine (In_no _ _ _ _ ?_).mono ?_; omega; rintro e w' ⟨rfl, rfl⟩))
    go_ret
    refine ⟨by rw [HF.out]; rfl, ?_⟩
    (repeat (first | with_reducible exact Below.refl _ _ | with_reducible refine Below.setCell ?_ ?_ _ | with_reducible refine Below.alloc ?_ ?_ _ | with_reducible refine Below.drew ?_ | with_reducible refine below_drewN ?_ _))
    all_goals (first | omega | (simp; done) | (simp; omega))
end Go.Proofs.YtddiolgeaefieaaDoor

/- The law JudgeEnds: P7.5. -/
import Derived.Test.YtdofgjpgppaghaaAct
import Derived.Test.YtdofgjpgppaghaaOpenF
import Derived.Lib.SmallJoins
namespace Go.Proofs.Ytdofgjpgppaghaa
open Go.RowKit
set_option linter.unusedSimpArgs false
set_option linter.unusedVariables false
open Go.Joins Go.ChangeShapes Go.WideShapes Go.ChangeAt
theorem act_single {w : World} {D : Nat → Prop} {b : Nat} (hb : D b) (k : Int) (s : ByteArray) (f : Int) (h0 : w.cell? ⟨b, 0, none⟩ = some (.int .i64 k)) (h1 : w.cell? ⟨b, 1, none⟩ = some (.string s)) (h2 : w.cell? ⟨b, 2, none⟩ = some (.int .i64 f)) :
    RF actF w D (.slice (some ⟨b, 0, none⟩) 1 1) [⟨k, s, f⟩] := by
  refine ⟨some ⟨b, 0, none⟩, 1, rfl, by simp, by decide, by simp, ⟨rfl, fun _ => ⟨b, 0, rfl, hb, fun j u hu => ?_⟩⟩⟩
  match j, hu with
  | 0, hu => injection hu with hu; subst hu; exact h0
  | 1, hu => injection hu with hu; subst hu; exact h1
  | 2, hu => injection hu with hu; subst hu; exact h2

set_option maxRecDepth 20000 in
theorem ended_any (v : Value) (l : List Action) (fl fa : Int) (ak : Bool) (w : World) (h : RF actF w (· < w.heap.size) v l) (hl : l.length ≤ 1000) :
    Calls Try.prog 41 #[.agg #[v, .int .i64 fl, .bool ak, .int .i64 fa]] w fun e w' => ∃ v', e = .returned v' ∧ RF actF w' (New w w') v' (endOf l fl fa ak) ∧ Below w.heap.size w w' := by
  obtain ⟨A, c, rfl, h⟩ := h.ex
  have H := Lib.hid h
  clear h
  by_cases hf : fa = 0
  · subst hf
    cases ak
    · have HE := Lib.hid (show endOf l fl 0 false = [⟨3, ByteArray.empty, fl⟩] from rfl)
      go_enter Try.func41, Try.ntmps41
      go_wp2_with fail
      rw [HE.out]
      go_ret
      exact ⟨_, rfl, act_single (by simp [New]) _ _ _ (by simp) (by simp; rfl) (by simp), ((Below.refl _ _).alloc (Nat.le_refl _) _).alloc (by simp) _⟩
    · have HE := Lib.hid (show endOf l fl 0 true = l from rfl)
      rw [HE.out]
      go_enter Try.func41, Try.ntmps41
      go_wp2_with (go_at_call 55; refine (ActionsCopy_any _ l _ (by refine RF.is.to H.out ?_ ?_ <;> first | (intro b hb; first | omega | (simp; omega) | (simp at hb; omega) | (simp at hb ⊢; omega) | (simp [New] at hb; omega) | (simp [New] at hb ⊢; omega) | (simp [New] at hb ⊢; done)) | ((repeat (first | with_reducible exact Keeps.refl _ _ | with_reducible refine Keeps.al' ?_ ?_ _ | with_reducible refine Keeps.st' ?_ ?_ _ | with_reducible refine Keeps.dr' ?_ | with_reducible refine Keeps.drN' ?_)); all_goals (intro b hb; first | omega | (simp; omega) | (simp at hb; omega) | (simp at hb ⊢; omega) | (simp [New] at hb; omega) | (simp [New] at hb ⊢; omega) | (simp [New] at hb ⊢; done)))) hl).mono ?_; rintro e w1 ⟨v', rfl, hr, hb⟩)
      go_ret
      refine ⟨_, rfl, RF.mono hr (fun b hb => ?_), ?_⟩
      · simp [New] at hb ⊢; omega
      · (repeat (first | with_reducible exact hb | with_reducible refine Below.trans ?_ (Below.mono hb ?_) | with_reducible exact Below.refl _ _ | with_reducible refine Below.setCell ?_ ?_ _ | with_reducible refine Below.alloc ?_ ?_ _ | with_reducible refine Below.drew ?_ | with_reducible refine below_drewN ?_ _))
        all_goals (first | omega | (simp; done) | (simp; omega))
  · have hf' : (fa == 0) = false := by simp [hf]
    have HE := Lib.hid (show endOf l fl fa ak = [⟨3, ByteArray.empty, 0⟩] from if_pos hf)
    clear hf
    go_enter Try.func41, Try.ntmps41
    go_wp2_with fail
    rw [HE.out]
    go_ret
    exact ⟨_, rfl, act_single (by simp [New]) _ _ _ (by simp) (by simp; rfl) (by simp), ((Below.refl _ _).alloc (Nat.le_refl _) _).alloc (by simp) _⟩

theorem courseErr_or (n : Nat) (fl : Int) : (courseErr n fl = 0 ∧ n ≤ 6) ∨ courseErr n fl = 11 := by
  unfold courseErr
  split
  · exact .inl ⟨rfl, by omega⟩
  · exact .inr rfl

def endR (l : List Action) (fl fa : Int) (ak : Bool) : List Action × Int := if courseErr l.length fl = 0 then (endOf l fl fa ak, 0) else ([], 11)

set_option maxRecDepth 20000 in
theorem End_any (v : Value) (l : List Action) (fl fa : Int) (ak : Bool) (w : World) (h : RF actF w (· < w.heap.size) v l) :
    Calls Try.prog 22 #[.agg #[v, .int .i64 fl, .bool ak, .int .i64 fa]] w fun e w' => ∃ v', e = .returned (.tuple #[v', .int .i64 (endR l fl fa ak).2]) ∧ RF actF w' (New w w') v' (endR l fl fa ak).1 ∧ Below w.heap.size w w' := by
  obtain ⟨A, c, rfl, h⟩ := h.ex
  have hm := h.bound
  have H := Lib.hid h
  clear h
  rcases courseErr_or l.length fl with ⟨he, hn⟩ | he
  · rw [show endR l fl fa ak = (endOf l fl fa ak, 0) from if_pos he]
    have HE := Lib.hid he
    clear he
    go_enter Try.func22, Try.ntmps22
    go_wp2_with fail
    refine (checkCourse_any A _ c fl fa ak _ hm).mono ?_
    rintro e w1 ⟨rfl, hb⟩
    obtain ⟨k1a, k1b, k1c⟩ := own_at hb (b := w.heap.size) (by first | omega | (simp; done) | (simp; omega)); have z2 := hb.size; (try simp only [World.size_alloc, World.size_setCell] at z2)
    rw [HE.out]
    go_wp2_with fail
    refine (end_any _ l fl fa ak _ w1.heap.size (by simp) (by refine RF.is.to H.out ?_ ?_ <;> first | (intro b hb; first | omega | (simp; omega) | (simp at hb; omega) | (simp at hb ⊢; omega) | (simp [New] at hb; omega) | (simp [New] at hb ⊢; omega) | (simp [New] at hb ⊢; done)) | ((repeat (first | with_reducible refine Keeps.bl' ?_ hb ?_ | with_reducible exact Keeps.refl _ _ | with_reducible refine Keeps.al' ?_ ?_ _ | with_reducible refine Keeps.st' ?_ ?_ _ | with_reducible refine Keeps.dr' ?_ | with_reducible refine Keeps.drN' ?_)); all_goals (intro b hb; first | omega | (simp; omega) | (simp at hb; omega) | (simp at hb ⊢; omega) | (simp [New] at hb; omega) | (simp [New] at hb ⊢; omega) | (simp [New] at hb ⊢; done)))) (by omega) (by simp) (by simp) (by simp) (by simp)).mono ?_
    rintro e w2 ⟨v2, rfl, hr, hb2⟩
    go_wp2_with fail
    go_ret2
    refine ⟨_, rfl, RF.mono hr (fun b hb' => ?_), ?_⟩
    · have h1 := hb'.1; have h2 := hb'.2; simp at h1; exact ⟨by omega, by omega⟩
    · (repeat (first | with_reducible exact hb2 | with_reducible refine Below.trans ?_ (Below.mono hb2 ?_) | with_reducible exact hb | with_reducible refine Below.trans ?_ (Below.mono hb ?_) | with_reducible exact Below.refl _ _ | with_reducible refine Below.setCell ?_ ?_ _ | with_reducible refine Below.alloc ?_ ?_ _ | with_reducible refine Below.drew ?_ | with_reducible refine below_drewN ?_ _))
      all_goals (first | omega | (simp; done) | (simp; omega))
  · rw [show endR l fl fa ak = ([], 11) from if_neg (by rw [he]; decide)]
    have HE := Lib.hid he
    clear he
    go_enter Try.func22, Try.ntmps22
    go_wp2_with fail
    refine (checkCourse_any A _ c fl fa ak _ hm).mono ?_
    rintro e w1 ⟨rfl, hb⟩
    obtain ⟨k3a, k3b, k3c⟩ := own_at hb (b := w.heap.size) (by first | omega | (simp; done) | (simp; omega)); have z4 := hb.size; (try simp only [World.size_alloc, World.size_setCell] at z4)
    rw [HE.out]
    go_wp2_with fail
    go_ret2
    refine ⟨_, rfl, RF.nil, ?_⟩
    (repeat (first | with_reducible exact hb | with_reducible refine Below.trans ?_ (Below.mono hb ?_) | with_reducible exact Below.refl _ _ | with_reducible refine Below.setCell ?_ ?_ _ | with_reducible refine Below.alloc ?_ ?_ _ | with_reducible refine Below.drew ?_ | with_reducible refine below_drewN ?_ _))
    all_goals (first | omega | (simp; done) | (simp; omega))

set_option maxRecDepth 20000 in
theorem Ended_any (v : Value) (l : List Action) (fl fa : Int) (ak : Bool) (w : World) (h : RF actF w (· < w.heap.size) v l) :
    Calls Try.prog 24 #[.agg #[v, .int .i64 fl, .bool ak, .int .i64 fa]] w fun e w' => ∃ v', e = .returned (.tuple #[v', .int .i64 (endR l fl fa ak).2]) ∧ RF actF w' (New w w') v' (endR l fl fa ak).1 ∧ Below w.heap.size w w' := by
  obtain ⟨A, c, rfl, h⟩ := h.ex
  have hm := h.bound
  have H := Lib.hid h
  clear h
  rcases courseErr_or l.length fl with ⟨he, hn⟩ | he
  · rw [show endR l fl fa ak = (endOf l fl fa ak, 0) from if_pos he]
    have HE := Lib.hid he
    clear he
    go_enter Try.func24, Try.ntmps24
    go_wp2_with fail
    refine (CourseFault_any A _ c fl fa ak _ hm).mono ?_
    rintro e w1 ⟨rfl, hb⟩
    obtain ⟨k5a, k5b, k5c⟩ := own_at hb (b := w.heap.size) (by first | omega | (simp; done) | (simp; omega)); have z6 := hb.size; (try simp only [World.size_alloc, World.size_setCell] at z6)
    rw [HE.out]
    go_wp2_with fail
    refine (ended_any _ l fl fa ak _ (by refine RF.is.to H.out ?_ ?_ <;> first | (intro b hb; first | omega | (simp; omega) | (simp at hb; omega) | (simp at hb ⊢; omega) | (simp [New] at hb; omega) | (simp [New] at hb ⊢; omega) | (simp [New] at hb ⊢; done)) | ((repeat (first | with_reducible refine Keeps.bl' ?_ hb ?_ | with_reducible exact Keeps.refl _ _ | with_reducible refine Keeps.al' ?_ ?_ _ | with_reducible refine Keeps.st' ?_ ?_ _ | with_reducible refine Keeps.dr' ?_ | with_reducible refine Keeps.drN' ?_)); all_goals (intro b hb; first | omega | (simp; omega) | (simp at hb; omega) | (simp at hb ⊢; omega) | (simp [New] at hb; omega) | (simp [New] at hb ⊢; omega) | (simp [New] at hb ⊢; done)))) (by omega)).mono ?_
    rintro e w2 ⟨v2, rfl, hr, hb2⟩
    go_wp2_with fail
    go_ret2
    refine ⟨_, rfl, RF.mono hr (fun b hb' => ?_), ?_⟩
    · have h1 := hb'.1; have h2 := hb'.2; exact ⟨by omega, by omega⟩
    · (repeat (first | with_reducible exact hb2 | with_reducible refine Below.trans ?_ (Below.mono hb2 ?_) | with_reducible exact hb | with_reducible refine Below.trans ?_ (Below.mono hb ?_) | with_reducible exact Below.refl _ _ | with_reducible refine Below.setCell ?_ ?_ _ | with_reducible refine Below.alloc ?_ ?_ _ | with_reducible refine Below.drew ?_ | with_reducible refine below_drewN ?_ _))
      all_goals (first | omega | (simp; done) | (simp; omega))
  · rw [show endR l fl fa ak = ([], 11) from if_neg (by rw [he]; decide)]
    have HE := Lib.hid he
    clear he
    go_enter Try.func24, Try.ntmps24
    go_wp2_with fail
    refine (CourseFault_any A _ c fl fa ak _ hm).mono ?_
    rintro e w1 ⟨rfl, hb⟩
    obtain ⟨k7a, k7b, k7c⟩ := own_at hb (b := w.heap.size) (by first | omega | (simp; done) | (simp; omega)); have z8 := hb.size; (try simp only [World.size_alloc, World.size_setCell] at z8)
    rw [HE.out]
    go_wp2_with fail
    go_ret2
    refine ⟨_, rfl, RF.nil, ?_⟩
    (repeat (first | with_reducible exact hb | with_reducible refine Below.trans ?_ (Below.mono hb ?_) | with_reducible exact Below.refl _ _ | with_reducible refine Below.setCell ?_ ?_ _ | with_reducible refine Below.alloc ?_ ?_ _ | with_reducible refine Below.drew ?_ | with_reducible refine below_drewN ?_ _))
    all_goals (first | omega | (simp; done) | (simp; omega))

set_option maxRecDepth 20000 in
set_option maxHeartbeats 1000000 in
theorem judgeEnds_walk (v : Value) (l : List Action) (fl fa : Int) (ak : Bool) (w : World) (h : RF actF w (· < w.heap.size) v l) (hl : l.length * 32 ≤ 140737488355328) :
    Calls Try.prog 8 #[.agg #[v, .int .i64 fl, .bool ak, .int .i64 fa]] w fun e w' => e = .returned (.bool true) ∧ Below w.heap.size w w' := by
  obtain ⟨A, c, rfl, h⟩ := h.ex
  have H := Lib.hid h
  clear h
  go_enter Try.func8, Try.ntmps8
  go_wp2_with fail
  refine (courses_any _ l fl fa ak _ (by refine RF.is.to H.out ?_ ?_ <;> first | (intro b hb; first | omega | (simp; omega) | (simp at hb; omega) | (simp at hb ⊢; omega) | (simp [New] at hb; omega) | (simp [New] at hb ⊢; omega) | (simp [New] at hb ⊢; done)) | ((repeat (first | with_reducible exact Keeps.refl _ _ | with_reducible refine Keeps.al' ?_ ?_ _ | with_reducible refine Keeps.st' ?_ ?_ _ | with_reducible refine Keeps.dr' ?_ | with_reducible refine Keeps.drN' ?_)); all_goals (intro b hb; first | omega | (simp; omega) | (simp at hb; omega) | (simp at hb ⊢; omega) | (simp [New] at hb; omega) | (simp [New] at hb ⊢; omega) | (simp [New] at hb ⊢; done)))) hl).mono ?_
  rintro e w1 ⟨v1, rfl, hr1, hb1⟩
  obtain ⟨k9a, k9b, k9c⟩ := own_at hb1 (b := w.heap.size) (by first | omega | (simp; done) | (simp; omega)); have z10 := hb1.size; (try simp only [World.size_alloc, World.size_setCell] at z10)
  obtain ⟨A1, c1, rfl, hr1⟩ := hr1.ex
  have HR1 := Lib.hid hr1
  clear hr1
  go_wp2_with fail
  refine (End_any _ l fl fa ak _ (by refine RF.is.to HR1.out ?_ ?_ <;> first | (intro b hb; first | omega | (simp; omega) | (simp at hb; omega) | (simp at hb ⊢; omega) | (simp [New] at hb; omega) | (simp [New] at hb ⊢; omega) | (simp [New] at hb ⊢; done)) | ((repeat (first | with_reducible exact Keeps.refl _ _ | with_reducible refine Keeps.al' ?_ ?_ _ | with_reducible refine Keeps.st' ?_ ?_ _ | with_reducible refine Keeps.dr' ?_ | with_reducible refine Keeps.drN' ?_)); all_goals (intro b hb; first | omega | (simp; omega) | (simp at hb; omega) | (simp at hb ⊢; omega) | (simp [New] at hb; omega) | (simp [New] at hb ⊢; omega) | (simp [New] at hb ⊢; done))))).mono ?_
  rintro e w2 ⟨v2, rfl, hr2, hb2⟩
  obtain ⟨k11a, k11b, k11c⟩ := own_at hb2 (b := w.heap.size) (by first | omega | (simp; done) | (simp; omega)); have z12 := hb2.size; (try simp only [World.size_alloc, World.size_setCell] at z12)
  obtain ⟨A2, c2, rfl, hr2⟩ := hr2.ex
  have HR2 := Lib.hid hr2
  clear hr2
  go_wp2_with fail
  refine (Ended_any _ l fl fa ak _ (by refine RF.is.to H.out ?_ ?_ <;> first | (intro b hb; first | omega | (simp; omega) | (simp at hb; omega) | (simp at hb ⊢; omega) | (simp [New] at hb; omega) | (simp [New] at hb ⊢; omega) | (simp [New] at hb ⊢; done)) | ((repeat (first | with_reducible refine Keeps.bl' ?_ hb2 ?_ | with_reducible refine Keeps.bl' ?_ hb1 ?_ | with_reducible exact Keeps.refl _ _ | with_reducible refine Keeps.al' ?_ ?_ _ | with_reducible refine Keeps.st' ?_ ?_ _ | with_reducible refine Keeps.dr' ?_ | with_reducible refine Keeps.drN' ?_)); all_goals (intro b hb; first | omega | (simp; omega) | (simp at hb; omega) | (simp at hb ⊢; omega) | (simp [New] at hb; omega) | (simp [New] at hb ⊢; omega) | (simp [New] at hb ⊢; done))))).mono ?_
  rintro e w3 ⟨v3, rfl, hr3, hb3⟩
  have z13 := hb3.size; (try simp only [World.size_alloc, World.size_setCell] at z13)
  obtain ⟨A3, c3, rfl, hr3⟩ := hr3.ex
  have HR3 := Lib.hid hr3
  clear hr3
  go_wp2_with fail
  refine (sameActions_yes _ _ _ _ (by refine RF.is.to HR2.out ?_ ?_ <;> first | (intro b hb; first | omega | (simp; omega) | (simp at hb; omega) | (simp at hb ⊢; omega) | (simp [New] at hb; omega) | (simp [New] at hb ⊢; omega) | (simp [New] at hb ⊢; done)) | ((repeat (first | with_reducible refine Keeps.bl' ?_ hb3 ?_ | with_reducible exact Keeps.refl _ _ | with_reducible refine Keeps.al' ?_ ?_ _ | with_reducible refine Keeps.st' ?_ ?_ _ | with_reducible refine Keeps.dr' ?_ | with_reducible refine Keeps.drN' ?_)); all_goals (intro b hb; first | omega | (simp; omega) | (simp at hb; omega) | (simp at hb ⊢; omega) | (simp [New] at hb; omega) | (simp [New] at hb ⊢; omega) | (simp [New] at hb ⊢; done)))) (by refine RF.is.to HR3.out ?_ ?_ <;> first | (intro b hb; first | omega | (simp; omega) | (simp at hb; omega) | (simp at hb ⊢; omega) | (simp [New] at hb; omega) | (simp [New] at hb ⊢; omega) | (simp [New] at hb ⊢; done)) | ((repeat (first | with_reducible exact Keeps.refl _ _ | with_reducible refine Keeps.al' ?_ ?_ _ | with_reducible refine Keeps.st' ?_ ?_ _ | with_reducible refine Keeps.dr' ?_ | with_reducible refine Keeps.drN' ?_)); all_goals (intro b hb; first | omega | (simp; omega) | (simp at hb; omega) | (simp at hb ⊢; omega) | (simp [New] at hb; omega) | (simp [New] at hb ⊢; omega) | (simp [New] at hb ⊢; done))))).mono ?_
  rintro e w4 ⟨rfl, hb4⟩
  go_wp2_with fail
  go_ret
  refine ⟨rfl, ?_⟩
  (repeat (first | with_reducible exact hb4 | with_reducible refine Below.trans ?_ (Below.mono hb4 ?_) | with_reducible exact hb3 | with_reducible refine Below.trans ?_ (Below.mono hb3 ?_) | with_reducible exact hb2 | with_reducible refine Below.trans ?_ (Below.mono hb2 ?_) | with_reducible exact hb1 | with_reducible refine Below.trans ?_ (Below.mono hb1 ?_) | with_reducible exact Below.refl _ _ | with_reducible refine Below.setCell ?_ ?_ _ | with_reducible refine Below.alloc ?_ ?_ _ | with_reducible refine Below.drew ?_ | with_reducible refine below_drewN ?_ _))
  all_goals (first | omega | (simp; done) | (simp; omega))

theorem trod_acts {H : Type} {enc : TypeId × Value → H} {W : World} {fuel : Nat} {v : Value} {y : DataW H × List MemPlace} (h : DataW.trod enc Try.prog W 0 (fun _ => true) true fuel 40 [v] = some y) (hs : Small Try.prog 40 y.1) :
    ∃ l : List Action, RF actF W (· < W.heap.size) v l ∧ l.length * 32 ≤ 140737488355328 := by
  obtain ⟨l, h1, h2, _⟩ := open_flat (B := 32) (OK := fun _ => True) actF Try.underlying40 (by kernel_rfl) (by kernel_rfl) (fun fuel cs x h hs => by
    obtain ⟨xs, n, _, hx, hlen, hxl, hf⟩ := DataW.trod_struct Try.underlying73 h
    rw [show Try.prog.cellsOf 73 = 3 by kernel_rfl] at hlen
    have hc3 : Try.prog.cellsOf 3 = 1 := by kernel_rfl
    have hc9 : Try.prog.cellsOf 9 = 1 := by kernel_rfl
    match cs, hlen, xs, hxl with
    | [a0, a1, a2], _, [x0, x1, x2], _ =>
      have f0 := hf 0 _ rfl
      have f1 := hf 1 _ rfl
      have f2 := hf 2 _ rfl
      simp [hc3, hc9] at f0 f1 f2
      obtain ⟨k, e0, _, _⟩ := DataW.trod_int Try.underlying3 f0
      obtain ⟨s, e1, _, _⟩ := DataW.trod_string Try.underlying9 f1
      obtain ⟨f, e2, _, _⟩ := DataW.trod_int Try.underlying3 f2
      simp only [List.cons.injEq, and_true] at e0 e1 e2
      subst e0 e1 e2
      exact ⟨⟨k, s, f⟩, rfl, trivial⟩) h hs
  exact ⟨l, h1, h2⟩
theorem judgeEnds_run {H : Type} {enc : TypeId × Value → H} (W : World) (base : Nat) (v0 : Value) (d0 : DataW H) (p0 : List MemPlace)
    (k0 : Value.okWide Try.prog W .any base 42 v0) (h0 : DataW.Trod enc Try.prog W 0 (fun _ => true) true 42 v0 d0 p0) (s0 : Small Try.prog 42 d0) :
    Calls Try.prog 8 #[v0] W fun e W' => e = .returned (.bool true) ∧ Below W.heap.size W W' := by
  obtain ⟨c0, c1, c2, c3, y0, y1, y2, y3, m, rfl, rfl, _, hy0, hy1, hy2, hy3⟩ := open_agg4 Try.underlying42 (by kernel_rfl) (by kernel_rfl) k0 h0
  obtain ⟨l, hr, hl⟩ := trod_acts hy0 (Small.part (j := 0) Try.underlying42 s0 rfl rfl)
  obtain ⟨fl, e1, _, _⟩ := DataW.trod_int Try.underlying3 hy1
  obtain ⟨ak, e2, _⟩ := DataW.trod_bool Try.underlying4 hy2
  obtain ⟨fa, e3, _, _⟩ := DataW.trod_int Try.underlying22 hy3
  simp only [List.cons.injEq, and_true] at e1 e2 e3
  subst e1 e2 e3
  exact judgeEnds_walk c0 l fl fa ak W hr hl
end Go.Proofs.Ytdofgjpgppaghaa

/- The law BookCrashes: P10.7. -/
import Derived.Test.YtdofgjpgppaghaaBookSyncsW
namespace Go.Proofs.Ytdofgjpgppaghaa
open Go.RowKit
set_option linter.unusedSimpArgs false
set_option linter.unusedVariables false
open Go.Joins Go.ChangeShapes Go.WideShapes Go.ChangeAt
theorem RB.cut {w : World} {D : Nat → Prop} {A : Option Addr} {l : List UInt8} {c : Nat} (h : RB w D (.slice A l.length c) l) {n c' : Nat} (hn : n ≤ l.length) (hc : n ≤ c') (hm : c' ≤ maxLen) (hA : A = none → c' = 0) : RB w D (.slice A n c') (l.take n) := by
  obtain ⟨A', c0, h1, h2, h3, h4, h5⟩ := h
  injection h1 with e1 e2 e3
  subst e1
  have hl : (l.take n).length = n := by simp; omega
  refine ⟨A, c', by rw [hl], by omega, hm, hA, ⟨by simp, fun hp => ?_⟩⟩
  obtain ⟨b, off, e, hD, hc⟩ := h5.2 (by omega)
  refine ⟨b, off, e, hD, fun j u hu => hc j u ?_⟩
  rw [List.map_take, List.getElem?_take] at hu
  split at hu
  · exact hu
  · cases hu

theorem RB.cap {w : World} {D : Nat → Prop} {A : Option Addr} {l : List UInt8} {n c : Nat} (h : RB w D (.slice A n c) l) : l.length ≤ c ∧ c ≤ maxLen ∧ (A = none → c = 0) := by
  obtain ⟨A', c0, h1, h2, h3, h4, h5⟩ := h
  injection h1 with e1 e2 e3
  subst e1 e3
  exact ⟨h2, h3, h4⟩

/-- what both calls answer -/
def crashN (l : List UInt8) (sy keep : Int) : Nat := if keep < l.length - sy then (sy + keep).toNat else l.length
def crashD (l : List UInt8) (sy keep : Int) : List UInt8 × Int × Int :=
  if l.length ≤ 100000 ∧ 0 ≤ sy ∧ sy ≤ l.length then (if keep < 0 then ([], 0, 6) else (l.take (crashN l sy keep), crashN l sy keep, 0)) else ([], 0, 11)

set_option maxRecDepth 20000 in
theorem Crash_no (A : Option Addr) (n c : Nat) (sy keep : Int) (w : World) (hn : n ≤ maxLen) (h : ¬ (n ≤ 100000 ∧ 0 ≤ sy ∧ sy ≤ n)) :
    Calls Try.prog 20 #[.agg #[.slice A n c, .int .i64 sy], .int .i64 keep] w fun e w' => e = .returned (.tuple #[.agg #[.slice none 0 0, .int .i64 0], .int .i64 11]) ∧ Below w.heap.size w w' := by
  have HH := Lib.hid h
  clear h
  go_enter Try.func20, Try.ntmps20
  go_wp2_with (go_at_call 35; refine (open_no A n c sy _ hn HH.out).mono ?_; rintro e w1 ⟨rfl, hb⟩; obtain ⟨k1a, k1b, k1c⟩ := own_at hb (b := w.heap.size) (by first | omega | (simp; done) | (simp; omega)); obtain ⟨k2a, k2b, k2c⟩ := own_at hb (b := w.heap.size + 1) (by first | omega | (simp; done) | (simp; omega)))
  refine bodyPost_ret (v := .tuple #[.agg #[.slice none 0 0, .int .i64 0], .int .i64 11]) (by simp [results, Try.results20, go_sem, *]) rfl ⟨rfl, ?_⟩
  (repeat (first | with_reducible exact hb | with_reducible refine Below.trans ?_ (Below.mono hb ?_) | with_reducible exact Below.refl _ _ | with_reducible refine Below.setCell ?_ ?_ _ | with_reducible refine Below.alloc ?_ ?_ _ | with_reducible refine Below.drew ?_ | with_reducible refine below_drewN ?_ _))
  all_goals (first | omega | (simp; done) | (simp; omega))
set_option maxRecDepth 20000 in
theorem TapeCrashed_no (A : Option Addr) (n c : Nat) (sy keep : Int) (w : World) (hn : n ≤ maxLen) (h : ¬ (n ≤ 100000 ∧ 0 ≤ sy ∧ sy ≤ n)) :
    Calls Try.prog 21 #[.agg #[.slice A n c, .int .i64 sy], .int .i64 keep] w fun e w' => e = .returned (.tuple #[.agg #[.slice none 0 0, .int .i64 0], .int .i64 11]) ∧ Below w.heap.size w w' := by
  have HB := Lib.hid (show (decide (n ≤ 100000) && (decide (0 ≤ sy) && decide (sy ≤ (n : Int)))) = false by simp; omega)
  clear h
  go_enter Try.func21, Try.ntmps21
  go_wp2_with (go_at_call 36; refine (TapeMay_any A n c sy _ hn).mono ?_; rintro e w1 ⟨rfl, hb⟩; obtain ⟨k3a, k3b, k3c⟩ := own_at hb (b := w.heap.size) (by first | omega | (simp; done) | (simp; omega)); obtain ⟨k4a, k4b, k4c⟩ := own_at hb (b := w.heap.size + 1) (by first | omega | (simp; done) | (simp; omega)); rw [HB.out])
  refine bodyPost_ret (v := .tuple #[.agg #[.slice none 0 0, .int .i64 0], .int .i64 11]) (by simp [results, Try.results21, go_sem, *]) rfl ⟨rfl, ?_⟩
  (repeat (first | with_reducible exact hb | with_reducible refine Below.trans ?_ (Below.mono hb ?_) | with_reducible exact Below.refl _ _ | with_reducible refine Below.setCell ?_ ?_ _ | with_reducible refine Below.alloc ?_ ?_ _ | with_reducible refine Below.drew ?_ | with_reducible refine below_drewN ?_ _))
  all_goals (first | omega | (simp; done) | (simp; omega))
set_option maxRecDepth 20000 in
theorem Crash_neg (v : Value) (sy keep : Int) (l : List UInt8) (w : World) (h : RB w (· < w.heap.size) v l) (m1 : l.length ≤ 100000) (m2 : 0 ≤ sy) (m3 : sy ≤ l.length) (m4 : keep < 0) :
    Calls Try.prog 20 #[.agg #[v, .int .i64 sy], .int .i64 keep] w fun e w' => e = .returned (.tuple #[.agg #[.slice none 0 0, .int .i64 0], .int .i64 6]) ∧ Below w.heap.size w w' := by
  obtain ⟨A, c, rfl, h⟩ := h.ex
  have H := Lib.hid h
  clear h
  go_enter Try.func20, Try.ntmps20
  go_wp2_with fail
  refine (open_yes _ sy l _ _ (by refine RB.is.to H.out ?_ ?_ <;> first | (intro b hb; first | omega | (simp; omega) | (simp at hb; omega) | (simp at hb ⊢; omega) | (simp [New] at hb; omega) | (simp [New] at hb ⊢; omega) | (simp [New] at hb ⊢; done)) | ((repeat (first | with_reducible exact Keeps.refl _ _ | with_reducible refine Keeps.al' ?_ ?_ _ | with_reducible refine Keeps.st' ?_ ?_ _ | with_reducible refine Keeps.dr' ?_ | with_reducible refine Keeps.drN' ?_)); all_goals (intro b hb; first | omega | (simp; omega) | (simp at hb; omega) | (simp at hb ⊢; omega) | (simp [New] at hb; omega) | (simp [New] at hb ⊢; omega) | (simp [New] at hb ⊢; done)))) (fun b h => h) m1 m2 m3).mono ?_
  rintro e w1 ⟨v1, rfl, hr1, hb⟩
  obtain ⟨k11a, k11b, k11c⟩ := own_at hb (b := w.heap.size) (by first | omega | (simp; done) | (simp; omega)); obtain ⟨k12a, k12b, k12c⟩ := own_at hb (b := w.heap.size + 1) (by first | omega | (simp; done) | (simp; omega))
  obtain ⟨A1, c1, rfl, hr1⟩ := hr1.ex
  clear hr1
  go_wp2_with fail
  refine bodyPost_ret (v := .tuple #[.agg #[.slice none 0 0, .int .i64 0], .int .i64 6]) (by simp [results, Try.results20, go_sem, *]) rfl ⟨rfl, ?_⟩
  (repeat (first | with_reducible exact hb | with_reducible refine Below.trans ?_ (Below.mono hb ?_) | with_reducible exact Below.refl _ _ | with_reducible refine Below.setCell ?_ ?_ _ | with_reducible refine Below.alloc ?_ ?_ _ | with_reducible refine Below.drew ?_ | with_reducible refine below_drewN ?_ _))
  all_goals (first | omega | (simp; done) | (simp; omega))
set_option maxRecDepth 20000 in
theorem TapeCrashed_neg (A : Option Addr) (n c : Nat) (sy keep : Int) (w : World) (hn : n ≤ maxLen) (m1 : n ≤ 100000) (m2 : 0 ≤ sy) (m3 : sy ≤ n) (m4 : keep < 0) :
    Calls Try.prog 21 #[.agg #[.slice A n c, .int .i64 sy], .int .i64 keep] w fun e w' => e = .returned (.tuple #[.agg #[.slice none 0 0, .int .i64 0], .int .i64 6]) ∧ Below w.heap.size w w' := by
  have HB := Lib.hid (show (decide (n ≤ 100000) && (decide (0 ≤ sy) && decide (sy ≤ (n : Int)))) = true by simp; omega)
  go_enter Try.func21, Try.ntmps21
  go_wp2_with (go_at_call 36; refine (TapeMay_any A n c sy _ hn).mono ?_; rintro e w1 ⟨rfl, hb⟩; obtain ⟨k5a, k5b, k5c⟩ := own_at hb (b := w.heap.size) (by first | omega | (simp; done) | (simp; omega)); obtain ⟨k6a, k6b, k6c⟩ := own_at hb (b := w.heap.size + 1) (by first | omega | (simp; done) | (simp; omega)); rw [HB.out])
  refine bodyPost_ret (v := .tuple #[.agg #[.slice none 0 0, .int .i64 0], .int .i64 6]) (by simp [results, Try.results21, go_sem, *]) rfl ⟨rfl, ?_⟩
  (repeat (first | with_reducible exact hb | with_reducible refine Below.trans ?_ (Below.mono hb ?_) | with_reducible exact Below.refl _ _ | with_reducible refine Below.setCell ?_ ?_ _ | with_reducible refine Below.alloc ?_ ?_ _ | with_reducible refine Below.drew ?_ | with_reducible refine below_drewN ?_ _))
  all_goals (first | omega | (simp; done) | (simp; omega))

set_option maxRecDepth 20000 in
theorem Crash_yes (v : Value) (sy keep : Int) (l : List UInt8) (w : World) (h : RB w (· < w.heap.size) v l) (m1 : l.length ≤ 100000) (m2 : 0 ≤ sy) (m3 : sy ≤ l.length) (m4 : 0 ≤ keep) (mk : keep ≤ 9223372036854775807) :
    Calls Try.prog 20 #[.agg #[v, .int .i64 sy], .int .i64 keep] w fun e w' => ∃ v', e = .returned (.tuple #[.agg #[v', .int .i64 (crashN l sy keep)], .int .i64 0]) ∧ RB w' (New w w') v' (l.take (crashN l sy keep)) ∧ Below w.heap.size w w' := by
  obtain ⟨A, c, rfl, h⟩ := h.ex
  have H := Lib.hid h
  clear h
  have HNl := Lib.hid (show crashN l sy keep ≤ l.length by unfold crashN; split <;> omega)
  by_cases hk : keep ≤ l.length - sy
  · have HN := Lib.hid (show crashN l sy keep = (sy + keep).toNat by unfold crashN; split <;> omega)
    go_enter Try.func20, Try.ntmps20
    go_wp2_with fail
    refine (open_yes _ sy l _ _ (by refine RB.is.to H.out ?_ ?_ <;> first | (intro b hb; first | omega | (simp; omega) | (simp at hb; omega) | (simp at hb ⊢; omega) | (simp [New] at hb; omega) | (simp [New] at hb ⊢; omega) | (simp [New] at hb ⊢; done)) | ((repeat (first | with_reducible exact Keeps.refl _ _ | with_reducible refine Keeps.al' ?_ ?_ _ | with_reducible refine Keeps.st' ?_ ?_ _ | with_reducible refine Keeps.dr' ?_ | with_reducible refine Keeps.drN' ?_)); all_goals (intro b hb; first | omega | (simp; omega) | (simp at hb; omega) | (simp at hb ⊢; omega) | (simp [New] at hb; omega) | (simp [New] at hb ⊢; omega) | (simp [New] at hb ⊢; done)))) (fun b h => h) m1 m2 m3).mono ?_
    rintro e w1 ⟨v1, rfl, hr1, hb⟩
    obtain ⟨k13a, k13b, k13c⟩ := own_at hb (b := w.heap.size) (by first | omega | (simp; done) | (simp; omega)); obtain ⟨k14a, k14b, k14c⟩ := own_at hb (b := w.heap.size + 1) (by first | omega | (simp; done) | (simp; omega))
    obtain ⟨A1, c1, rfl, hr1⟩ := hr1.ex
    have hcap := hr1.cap.1
    have HR := Lib.hid hr1
    clear hr1
    go_wp2_with fail
    have hq : RB w1 _ (.slice A1 (crashN l sy keep) (crashN l sy keep)) (l.take (crashN l sy keep)) := RB.cut HR.out HNl.out (Nat.le_refl _) (by have := HR.out.cap; have := HNl.out; omega) (fun hA => by have h1 := HR.out.cap.2.2 hA; have := HNl.out; omega)
    rw [HN.out] at hq ⊢
    have e1 : (((sy + keep).toNat : Nat) : Int) = sy + keep := by omega
    rw [e1]
    refine bodyPost_ret (v := .tuple #[.agg #[.slice A1 (sy + keep).toNat (sy + keep).toNat, .int .i64 (sy + keep)], .int .i64 0]) (by simp [results, Try.results20, go_sem, *]) rfl ⟨_, rfl, (by refine RB.is.to hq ?_ ?_ <;> first | (intro b hb; first | omega | (simp; omega) | (simp at hb; omega) | (simp at hb ⊢; omega) | (simp [New] at hb; omega) | (simp [New] at hb ⊢; omega) | (simp [New] at hb ⊢; done)) | ((repeat (first | with_reducible exact Keeps.refl _ _ | with_reducible refine Keeps.al' ?_ ?_ _ | with_reducible refine Keeps.st' ?_ ?_ _ | with_reducible refine Keeps.dr' ?_ | with_reducible refine Keeps.drN' ?_)); all_goals (intro b hb; first | omega | (simp; omega) | (simp at hb; omega) | (simp at hb ⊢; omega) | (simp [New] at hb; omega) | (simp [New] at hb ⊢; omega) | (simp [New] at hb ⊢; done)))), ?_⟩
    (repeat (first | with_reducible exact hb | with_reducible refine Below.trans ?_ (Below.mono hb ?_) | with_reducible exact Below.refl _ _ | with_reducible refine Below.setCell ?_ ?_ _ | with_reducible refine Below.alloc ?_ ?_ _ | with_reducible refine Below.drew ?_ | with_reducible refine below_drewN ?_ _))
    all_goals (first | omega | (simp; done) | (simp; omega))
  · have HN := Lib.hid (show crashN l sy keep = l.length by unfold crashN; split <;> omega)
    have hk' : l.length - sy < keep := by omega
    go_enter Try.func20, Try.ntmps20
    go_wp2_with fail
    refine (open_yes _ sy l _ _ (by refine RB.is.to H.out ?_ ?_ <;> first | (intro b hb; first | omega | (simp; omega) | (simp at hb; omega) | (simp at hb ⊢; omega) | (simp [New] at hb; omega) | (simp [New] at hb ⊢; omega) | (simp [New] at hb ⊢; done)) | ((repeat (first | with_reducible exact Keeps.refl _ _ | with_reducible refine Keeps.al' ?_ ?_ _ | with_reducible refine Keeps.st' ?_ ?_ _ | with_reducible refine Keeps.dr' ?_ | with_reducible refine Keeps.drN' ?_)); all_goals (intro b hb; first | omega | (simp; omega) | (simp at hb; omega) | (simp at hb ⊢; omega) | (simp [New] at hb; omega) | (simp [New] at hb ⊢; omega) | (simp [New] at hb ⊢; done)))) (fun b h => h) m1 m2 m3).mono ?_
    rintro e w1 ⟨v1, rfl, hr1, hb⟩
    obtain ⟨k15a, k15b, k15c⟩ := own_at hb (b := w.heap.size) (by first | omega | (simp; done) | (simp; omega)); obtain ⟨k16a, k16b, k16c⟩ := own_at hb (b := w.heap.size + 1) (by first | omega | (simp; done) | (simp; omega))
    obtain ⟨A1, c1, rfl, hr1⟩ := hr1.ex
    have hcap := hr1.cap.1
    have HR := Lib.hid hr1
    clear hr1
    go_wp2_with fail
    have hq : RB w1 _ (.slice A1 (crashN l sy keep) (crashN l sy keep)) (l.take (crashN l sy keep)) := RB.cut HR.out HNl.out (Nat.le_refl _) (by have := HR.out.cap; have := HNl.out; omega) (fun hA => by have h1 := HR.out.cap.2.2 hA; have := HNl.out; omega)
    rw [HN.out] at hq ⊢
    have e1 : sy + ((l.length : Int) - sy) = l.length := by omega
    simp only [e1]
    refine bodyPost_ret (v := .tuple #[.agg #[.slice A1 l.length l.length, .int .i64 l.length], .int .i64 0]) (by simp [results, Try.results20, go_sem, *]) rfl ⟨_, rfl, (by refine RB.is.to hq ?_ ?_ <;> first | (intro b hb; first | omega | (simp; omega) | (simp at hb; omega) | (simp at hb ⊢; omega) | (simp [New] at hb; omega) | (simp [New] at hb ⊢; omega) | (simp [New] at hb ⊢; done)) | ((repeat (first | with_reducible exact Keeps.refl _ _ | with_reducible refine Keeps.al' ?_ ?_ _ | with_reducible refine Keeps.st' ?_ ?_ _ | with_reducible refine Keeps.dr' ?_ | with_reducible refine Keeps.drN' ?_)); all_goals (intro b hb; first | omega | (simp; omega) | (simp at hb; omega) | (simp at hb ⊢; omega) | (simp [New] at hb; omega) | (simp [New] at hb ⊢; omega) | (simp [New] at hb ⊢; done)))), ?_⟩
    (repeat (first | with_reducible exact hb | with_reducible refine Below.trans ?_ (Below.mono hb ?_) | with_reducible exact Below.refl _ _ | with_reducible refine Below.setCell ?_ ?_ _ | with_reducible refine Below.alloc ?_ ?_ _ | with_reducible refine Below.drew ?_ | with_reducible refine below_drewN ?_ _))
    all_goals (first | omega | (simp; done) | (simp; omega))

theorem TapeCrashed_yes (v : Value) (sy keep : Int) (l : List UInt8) (w : World) (h : RB w (· < w.heap.size) v l) (m1 : l.length ≤ 100000) (m2 : 0 ≤ sy) (m3 : sy ≤ l.length) (m4 : 0 ≤ keep) (mk : keep ≤ 9223372036854775807) :
    Calls Try.prog 21 #[.agg #[v, .int .i64 sy], .int .i64 keep] w fun e w' => ∃ v', e = .returned (.tuple #[.agg #[v', .int .i64 (crashN l sy keep)], .int .i64 0]) ∧ RB w' (New w w') v' (l.take (crashN l sy keep)) ∧ Below w.heap.size w w' := by
  obtain ⟨A, c, rfl, h⟩ := h.ex
  have hcap := h.cap.1
  have hm := h.bound
  have H := Lib.hid h
  clear h
  have HNl := Lib.hid (show crashN l sy keep ≤ l.length by unfold crashN; split <;> omega)
  have HB := Lib.hid (show (decide (l.length ≤ 100000) && (decide (0 ≤ sy) && decide (sy ≤ (l.length : Int)))) = true by simp; omega)
  by_cases hk : keep < l.length - sy
  · have HN := Lib.hid (show crashN l sy keep = (sy + keep).toNat by unfold crashN; split <;> omega)
    rw [HN.out]
    have HQ := Lib.hid (show RB w (· < w.heap.size) (.slice A (sy + keep).toNat c) (l.take (sy + keep).toNat) from RB.cut H.out (by omega) (by omega) H.out.cap.2.1 H.out.cap.2.2)
    have HE := Lib.hid (show (l.take (sy + keep).toNat).length = (sy + keep).toNat by simp; omega)
    generalize l.take (sy + keep).toNat = l' at HQ HE ⊢
    go_enter Try.func21, Try.ntmps21
    go_wp2_with (go_at_call 36; refine (TapeMay_any A _ c sy _ hm).mono ?_; rintro e w1 ⟨rfl, hb⟩; obtain ⟨k7a, k7b, k7c⟩ := own_at hb (b := w.heap.size) (by first | omega | (simp; done) | (simp; omega)); obtain ⟨k8a, k8b, k8c⟩ := own_at hb (b := w.heap.size + 1) (by first | omega | (simp; done) | (simp; omega)); rw [HB.out])
    refine (joined_any _ _ l' [] _ _ (by refine RB.is.to HQ.out ?_ ?_ <;> first | (intro b hb; first | omega | (simp; omega) | (simp at hb; omega) | (simp at hb ⊢; omega) | (simp [New] at hb; omega) | (simp [New] at hb ⊢; omega) | (simp [New] at hb ⊢; done)) | ((repeat (first | with_reducible refine Keeps.bl' ?_ hb ?_ | with_reducible exact Keeps.refl _ _ | with_reducible refine Keeps.al' ?_ ?_ _ | with_reducible refine Keeps.st' ?_ ?_ _ | with_reducible refine Keeps.dr' ?_ | with_reducible refine Keeps.drN' ?_)); all_goals (intro b hb; first | omega | (simp; omega) | (simp at hb; omega) | (simp at hb ⊢; omega) | (simp [New] at hb; omega) | (simp [New] at hb ⊢; omega) | (simp [New] at hb ⊢; done)))) (RB_nil _ _) (fun b h => h) (by have := HE.out; simp; omega)).mono ?_
    rintro e w2 ⟨v2, rfl, hr2, hb2⟩
    rw [List.append_nil] at hr2
    obtain ⟨k17a, k17b, k17c⟩ := own_at hb2 (b := w.heap.size) (by first | omega | (simp; done) | (simp; omega)); obtain ⟨k18a, k18b, k18c⟩ := own_at hb2 (b := w.heap.size + 1) (by first | omega | (simp; done) | (simp; omega))
    obtain ⟨A2, c2, rfl, hr2⟩ := hr2.ex
    have HR := Lib.hid hr2
    clear hr2
    go_wp2_with fail
    have e1 : (((sy + keep).toNat : Nat) : Int) = sy + keep := by omega
    rw [e1]
    refine bodyPost_ret (v := .tuple #[.agg #[.slice A2 l'.length c2, .int .i64 (sy + keep)], .int .i64 0]) (by simp [results, Try.results21, go_sem, *]) rfl ⟨_, rfl, (by refine RB.is.to HR.out ?_ ?_ <;> first | (intro b hb; first | omega | (simp; omega) | (simp at hb; omega) | (simp at hb ⊢; omega) | (simp [New] at hb; omega) | (simp [New] at hb ⊢; omega) | (simp [New] at hb ⊢; done)) | ((repeat (first | with_reducible exact Keeps.refl _ _ | with_reducible refine Keeps.al' ?_ ?_ _ | with_reducible refine Keeps.st' ?_ ?_ _ | with_reducible refine Keeps.dr' ?_ | with_reducible refine Keeps.drN' ?_)); all_goals (intro b hb; first | omega | (simp; omega) | (simp at hb; omega) | (simp at hb ⊢; omega) | (simp [New] at hb; omega) | (simp [New] at hb ⊢; omega) | (simp [New] at hb ⊢; done)))), ?_⟩
    (repeat (first | with_reducible exact hb2 | with_reducible refine Below.trans ?_ (Below.mono hb2 ?_) | with_reducible exact hb | with_reducible refine Below.trans ?_ (Below.mono hb ?_) | with_reducible exact Below.refl _ _ | with_reducible refine Below.setCell ?_ ?_ _ | with_reducible refine Below.alloc ?_ ?_ _ | with_reducible refine Below.drew ?_ | with_reducible refine below_drewN ?_ _))
    all_goals (first | omega | (simp; done) | (simp; omega))
  · have HN := Lib.hid (show crashN l sy keep = l.length by unfold crashN; split <;> omega)
    rw [HN.out, List.take_length]
    have hk' : l.length - sy ≤ keep := by omega
    have HQ := Lib.hid (show RB w (· < w.heap.size) (.slice A l.length c) l from H.out)
    go_enter Try.func21, Try.ntmps21
    go_wp2_with (go_at_call 36; refine (TapeMay_any A _ c sy _ hm).mono ?_; rintro e w1 ⟨rfl, hb⟩; obtain ⟨k9a, k9b, k9c⟩ := own_at hb (b := w.heap.size) (by first | omega | (simp; done) | (simp; omega)); obtain ⟨k10a, k10b, k10c⟩ := own_at hb (b := w.heap.size + 1) (by first | omega | (simp; done) | (simp; omega)); rw [HB.out])
    refine (joined_any _ _ l [] _ _ (by refine RB.is.to HQ.out ?_ ?_ <;> first | (intro b hb; first | omega | (simp; omega) | (simp at hb; omega) | (simp at hb ⊢; omega) | (simp [New] at hb; omega) | (simp [New] at hb ⊢; omega) | (simp [New] at hb ⊢; done)) | ((repeat (first | with_reducible refine Keeps.bl' ?_ hb ?_ | with_reducible exact Keeps.refl _ _ | with_reducible refine Keeps.al' ?_ ?_ _ | with_reducible refine Keeps.st' ?_ ?_ _ | with_reducible refine Keeps.dr' ?_ | with_reducible refine Keeps.drN' ?_)); all_goals (intro b hb; first | omega | (simp; omega) | (simp at hb; omega) | (simp at hb ⊢; omega) | (simp [New] at hb; omega) | (simp [New] at hb ⊢; omega) | (simp [New] at hb ⊢; done)))) (RB_nil _ _) (fun b h => h) (by simp; omega)).mono ?_
    rintro e w2 ⟨v2, rfl, hr2, hb2⟩
    rw [List.append_nil] at hr2
    obtain ⟨k19a, k19b, k19c⟩ := own_at hb2 (b := w.heap.size) (by first | omega | (simp; done) | (simp; omega)); obtain ⟨k20a, k20b, k20c⟩ := own_at hb2 (b := w.heap.size + 1) (by first | omega | (simp; done) | (simp; omega))
    obtain ⟨A2, c2, rfl, hr2⟩ := hr2.ex
    have HR := Lib.hid hr2
    clear hr2
    go_wp2_with fail
    refine bodyPost_ret (v := .tuple #[.agg #[.slice A2 l.length c2, .int .i64 l.length], .int .i64 0]) (by simp [results, Try.results21, go_sem, *]) rfl ⟨_, rfl, (by refine RB.is.to HR.out ?_ ?_ <;> first | (intro b hb; first | omega | (simp; omega) | (simp at hb; omega) | (simp at hb ⊢; omega) | (simp [New] at hb; omega) | (simp [New] at hb ⊢; omega) | (simp [New] at hb ⊢; done)) | ((repeat (first | with_reducible exact Keeps.refl _ _ | with_reducible refine Keeps.al' ?_ ?_ _ | with_reducible refine Keeps.st' ?_ ?_ _ | with_reducible refine Keeps.dr' ?_ | with_reducible refine Keeps.drN' ?_)); all_goals (intro b hb; first | omega | (simp; omega) | (simp at hb; omega) | (simp at hb ⊢; omega) | (simp [New] at hb; omega) | (simp [New] at hb ⊢; omega) | (simp [New] at hb ⊢; done)))), ?_⟩
    (repeat (first | with_reducible exact hb2 | with_reducible refine Below.trans ?_ (Below.mono hb2 ?_) | with_reducible exact hb | with_reducible refine Below.trans ?_ (Below.mono hb ?_) | with_reducible exact Below.refl _ _ | with_reducible refine Below.setCell ?_ ?_ _ | with_reducible refine Below.alloc ?_ ?_ _ | with_reducible refine Below.drew ?_ | with_reducible refine below_drewN ?_ _))
    all_goals (first | omega | (simp; done) | (simp; omega))

theorem Crash_any (v : Value) (sy keep : Int) (l : List UInt8) (w : World) (h : RB w (· < w.heap.size) v l) (mk : keep ≤ 9223372036854775807) :
    Calls Try.prog 20 #[.agg #[v, .int .i64 sy], .int .i64 keep] w fun e w' => ∃ v', e = .returned (.tuple #[.agg #[v', .int .i64 (crashD l sy keep).2.1], .int .i64 (crashD l sy keep).2.2]) ∧ RB w' (New w w') v' (crashD l sy keep).1 ∧ Below w.heap.size w w' := by
  by_cases hh : l.length ≤ 100000 ∧ 0 ≤ sy ∧ sy ≤ l.length
  · by_cases hk : keep < 0
    · have e : crashD l sy keep = ([], 0, 6) := by unfold crashD; rw [if_pos hh, if_pos hk]
      rw [e]
      exact (Crash_neg v sy keep l w h hh.1 hh.2.1 hh.2.2 hk).mono fun _ _ ⟨h1, h2⟩ => ⟨_, h1, RB_nil _ _, h2⟩
    · have e : crashD l sy keep = (l.take (crashN l sy keep), (crashN l sy keep : Int), 0) := by unfold crashD; rw [if_pos hh, if_neg hk]
      rw [e]
      exact Crash_yes v sy keep l w h hh.1 hh.2.1 hh.2.2 (by omega) mk
  · have e : crashD l sy keep = ([], 0, 11) := if_neg hh
    rw [e]
    have hm := h.bound
    obtain ⟨A, c, rfl, _⟩ := h.ex
    exact (Crash_no A l.length c sy keep w hm hh).mono fun _ _ ⟨h1, h2⟩ => ⟨_, h1, RB_nil _ _, h2⟩
theorem TapeCrashed_any (v : Value) (sy keep : Int) (l : List UInt8) (w : World) (h : RB w (· < w.heap.size) v l) (mk : keep ≤ 9223372036854775807) :
    Calls Try.prog 21 #[.agg #[v, .int .i64 sy], .int .i64 keep] w fun e w' => ∃ v', e = .returned (.tuple #[.agg #[v', .int .i64 (crashD l sy keep).2.1], .int .i64 (crashD l sy keep).2.2]) ∧ RB w' (New w w') v' (crashD l sy keep).1 ∧ Below w.heap.size w w' := by
  by_cases hh : l.length ≤ 100000 ∧ 0 ≤ sy ∧ sy ≤ l.length
  · by_cases hk : keep < 0
    · have e : crashD l sy keep = ([], 0, 6) := by unfold crashD; rw [if_pos hh, if_pos hk]
      rw [e]
      have hm := h.bound
      obtain ⟨A, c, rfl, _⟩ := h.ex
      exact (TapeCrashed_neg A l.length c sy keep w hm hh.1 hh.2.1 hh.2.2 hk).mono fun _ _ ⟨h1, h2⟩ => ⟨_, h1, RB_nil _ _, h2⟩
    · have e : crashD l sy keep = (l.take (crashN l sy keep), (crashN l sy keep : Int), 0) := by unfold crashD; rw [if_pos hh, if_neg hk]
      rw [e]
      exact TapeCrashed_yes v sy keep l w h hh.1 hh.2.1 hh.2.2 (by omega) mk
  · have e : crashD l sy keep = ([], 0, 11) := if_neg hh
    rw [e]
    have hm := h.bound
    obtain ⟨A, c, rfl, _⟩ := h.ex
    exact (TapeCrashed_no A l.length c sy keep w hm hh).mono fun _ _ ⟨h1, h2⟩ => ⟨_, h1, RB_nil _ _, h2⟩

set_option maxRecDepth 20000 in
set_option maxHeartbeats 400000 in
theorem bookCrashes_walk (v : Value) (sy keep : Int) (l : List UInt8) (w : World) (h : RB w (· < w.heap.size) v l) (hl : l.length ≤ 140737488355328) (mk : keep ≤ 9223372036854775807) :
    Calls Try.prog 7 #[.agg #[v, .int .i64 sy], .int .i64 keep] w fun e w' => e = .returned (.bool true) ∧ Below w.heap.size w w' := by
  obtain ⟨A, c, rfl, h⟩ := h.ex
  have H := Lib.hid h
  clear h
  go_enter Try.func7, Try.ntmps7
  go_wp2_with fail
  refine (tapes_any _ sy l _ (· < w.heap.size) (by refine RB.is.to H.out ?_ ?_ <;> first | (intro b hb; first | omega | (simp; omega) | (simp at hb; omega) | (simp at hb ⊢; omega) | (simp [New] at hb; omega) | (simp [New] at hb ⊢; omega) | (simp [New] at hb ⊢; done)) | ((repeat (first | with_reducible exact Keeps.refl _ _ | with_reducible refine Keeps.al' ?_ ?_ _ | with_reducible refine Keeps.st' ?_ ?_ _ | with_reducible refine Keeps.dr' ?_ | with_reducible refine Keeps.drN' ?_)); all_goals (intro b hb; first | omega | (simp; omega) | (simp at hb; omega) | (simp at hb ⊢; omega) | (simp [New] at hb; omega) | (simp [New] at hb ⊢; omega) | (simp [New] at hb ⊢; done)))) (by intro b hb; simp; omega) hl).mono ?_
  rintro e w1 ⟨v1, rfl, hr1, hb1⟩
  obtain ⟨k21a, k21b, k21c⟩ := own_at hb1 (b := w.heap.size) (by first | omega | (simp; done) | (simp; omega))
  obtain ⟨A1, c1, rfl, hr1⟩ := hr1.ex
  have HR1 := Lib.hid hr1
  clear hr1
  go_wp2_with fail
  refine (Crash_any _ sy keep l _ (by refine RB.is.to HR1.out ?_ ?_ <;> first | (intro b hb; first | omega | (simp; omega) | (simp at hb; omega) | (simp at hb ⊢; omega) | (simp [New] at hb; omega) | (simp [New] at hb ⊢; omega) | (simp [New] at hb ⊢; done)) | ((repeat (first | with_reducible exact Keeps.refl _ _ | with_reducible refine Keeps.al' ?_ ?_ _ | with_reducible refine Keeps.st' ?_ ?_ _ | with_reducible refine Keeps.dr' ?_ | with_reducible refine Keeps.drN' ?_)); all_goals (intro b hb; first | omega | (simp; omega) | (simp at hb; omega) | (simp at hb ⊢; omega) | (simp [New] at hb; omega) | (simp [New] at hb ⊢; omega) | (simp [New] at hb ⊢; done)))) mk).mono ?_
  rintro e w2 ⟨v2, rfl, hr2, hb2⟩
  obtain ⟨k22a, k22b, k22c⟩ := own_at hb2 (b := w.heap.size) (by first | omega | (simp; done) | (simp; omega)); obtain ⟨k23a, k23b, k23c⟩ := own_at hb2 (b := w1.heap.size) (by first | omega | (simp; done) | (simp; omega))
  obtain ⟨A2, c2, rfl, hr2⟩ := hr2.ex
  have HR2 := Lib.hid hr2
  clear hr2
  go_wp2_with fail
  refine (TapeCrashed_any _ sy keep l _ (by refine RB.is.to H.out ?_ ?_ <;> first | (intro b hb; first | omega | (simp; omega) | (simp at hb; omega) | (simp at hb ⊢; omega) | (simp [New] at hb; omega) | (simp [New] at hb ⊢; omega) | (simp [New] at hb ⊢; done)) | ((repeat (first | with_reducible refine Keeps.bl' ?_ hb2 ?_ | with_reducible refine Keeps.bl' ?_ hb1 ?_ | with_reducible exact Keeps.refl _ _ | with_reducible refine Keeps.al' ?_ ?_ _ | with_reducible refine Keeps.st' ?_ ?_ _ | with_reducible refine Keeps.dr' ?_ | with_reducible refine Keeps.drN' ?_)); all_goals (intro b hb; first | omega | (simp; omega) | (simp at hb; omega) | (simp at hb ⊢; omega) | (simp [New] at hb; omega) | (simp [New] at hb ⊢; omega) | (simp [New] at hb ⊢; done)))) mk).mono ?_
  rintro e w3 ⟨v3, rfl, hr3, hb3⟩
  obtain ⟨k24a, k24b, k24c⟩ := own_at hb3 (b := w.heap.size) (by first | omega | (simp; done) | (simp; omega)); obtain ⟨k25a, k25b, k25c⟩ := own_at hb3 (b := w1.heap.size) (by first | omega | (simp; done) | (simp; omega)); obtain ⟨k26a, k26b, k26c⟩ := own_at hb3 (b := w2.heap.size) (by first | omega | (simp; done) | (simp; omega))
  obtain ⟨A3, c3, rfl, hr3⟩ := hr3.ex
  have HR3 := Lib.hid hr3
  clear hr3
  go_wp2_with fail
  refine (sameTape_yes _ _ _ _ _ _ (fun b h => h) (by refine RB.is.to HR2.out ?_ ?_ <;> first | (intro b hb; first | omega | (simp; omega) | (simp at hb; omega) | (simp at hb ⊢; omega) | (simp [New] at hb; omega) | (simp [New] at hb ⊢; omega) | (simp [New] at hb ⊢; done)) | ((repeat (first | with_reducible refine Keeps.bl' ?_ hb3 ?_ | with_reducible exact Keeps.refl _ _ | with_reducible refine Keeps.al' ?_ ?_ _ | with_reducible refine Keeps.st' ?_ ?_ _ | with_reducible refine Keeps.dr' ?_ | with_reducible refine Keeps.drN' ?_)); all_goals (intro b hb; first | omega | (simp; omega) | (simp at hb; omega) | (simp at hb ⊢; omega) | (simp [New] at hb; omega) | (simp [New] at hb ⊢; omega) | (simp [New] at hb ⊢; done)))) (by refine RB.is.to HR3.out ?_ ?_ <;> first | (intro b hb; first | omega | (simp; omega) | (simp at hb; omega) | (simp at hb ⊢; omega) | (simp [New] at hb; omega) | (simp [New] at hb ⊢; omega) | (simp [New] at hb ⊢; done)) | ((repeat (first | with_reducible exact Keeps.refl _ _ | with_reducible refine Keeps.al' ?_ ?_ _ | with_reducible refine Keeps.st' ?_ ?_ _ | with_reducible refine Keeps.dr' ?_ | with_reducible refine Keeps.drN' ?_)); all_goals (intro b hb; first | omega | (simp; omega) | (simp at hb; omega) | (simp at hb ⊢; omega) | (simp [New] at hb; omega) | (simp [New] at hb ⊢; omega) | (simp [New] at hb ⊢; done))))).mono ?_
  rintro e w4 ⟨rfl, hb4⟩
  obtain ⟨k27a, k27b, k27c⟩ := own_at hb4 (b := w.heap.size) (by first | omega | (simp; done) | (simp; omega)); obtain ⟨k28a, k28b, k28c⟩ := own_at hb4 (b := w1.heap.size) (by first | omega | (simp; done) | (simp; omega)); obtain ⟨k29a, k29b, k29c⟩ := own_at hb4 (b := w2.heap.size) (by first | omega | (simp; done) | (simp; omega)); obtain ⟨k30a, k30b, k30c⟩ := own_at hb4 (b := w3.heap.size) (by first | omega | (simp; done) | (simp; omega))
  go_wp2_with fail
  refine (sameTape_yes _ _ _ _ _ _ (fun b h => h) (by refine RB.is.to HR1.out ?_ ?_ <;> first | (intro b hb; first | omega | (simp; omega) | (simp at hb; omega) | (simp at hb ⊢; omega) | (simp [New] at hb; omega) | (simp [New] at hb ⊢; omega) | (simp [New] at hb ⊢; done)) | ((repeat (first | with_reducible refine Keeps.bl' ?_ hb4 ?_ | with_reducible refine Keeps.bl' ?_ hb3 ?_ | with_reducible refine Keeps.bl' ?_ hb2 ?_ | with_reducible exact Keeps.refl _ _ | with_reducible refine Keeps.al' ?_ ?_ _ | with_reducible refine Keeps.st' ?_ ?_ _ | with_reducible refine Keeps.dr' ?_ | with_reducible refine Keeps.drN' ?_)); all_goals (intro b hb; first | omega | (simp; omega) | (simp at hb; omega) | (simp at hb ⊢; omega) | (simp [New] at hb; omega) | (simp [New] at hb ⊢; omega) | (simp [New] at hb ⊢; done)))) (by refine RB.is.to H.out ?_ ?_ <;> first | (intro b hb; first | omega | (simp; omega) | (simp at hb; omega) | (simp at hb ⊢; omega) | (simp [New] at hb; omega) | (simp [New] at hb ⊢; omega) | (simp [New] at hb ⊢; done)) | ((repeat (first | with_reducible refine Keeps.bl' ?_ hb4 ?_ | with_reducible refine Keeps.bl' ?_ hb3 ?_ | with_reducible refine Keeps.bl' ?_ hb2 ?_ | with_reducible refine Keeps.bl' ?_ hb1 ?_ | with_reducible exact Keeps.refl _ _ | with_reducible refine Keeps.al' ?_ ?_ _ | with_reducible refine Keeps.st' ?_ ?_ _ | with_reducible refine Keeps.dr' ?_ | with_reducible refine Keeps.drN' ?_)); all_goals (intro b hb; first | omega | (simp; omega) | (simp at hb; omega) | (simp at hb ⊢; omega) | (simp [New] at hb; omega) | (simp [New] at hb ⊢; omega) | (simp [New] at hb ⊢; done))))).mono ?_
  rintro e w5 ⟨rfl, hb5⟩
  go_wp2_with fail
  go_ret
  refine ⟨rfl, ?_⟩
  (repeat (first | with_reducible exact hb5 | with_reducible refine Below.trans ?_ (Below.mono hb5 ?_) | with_reducible exact hb4 | with_reducible refine Below.trans ?_ (Below.mono hb4 ?_) | with_reducible exact hb3 | with_reducible refine Below.trans ?_ (Below.mono hb3 ?_) | with_reducible exact hb2 | with_reducible refine Below.trans ?_ (Below.mono hb2 ?_) | with_reducible exact hb1 | with_reducible refine Below.trans ?_ (Below.mono hb1 ?_) | with_reducible exact Below.refl _ _ | with_reducible refine Below.setCell ?_ ?_ _ | with_reducible refine Below.alloc ?_ ?_ _ | with_reducible refine Below.drew ?_ | with_reducible refine below_drewN ?_ _))
  all_goals (first | omega | (simp; done) | (simp; omega))

theorem bookCrashes_run {H : Type} {enc : TypeId × Value → H} (W : World) (base : Nat) (v0 v1 : Value) (d0 : DataW H) (p0 : List MemPlace) (d1 : DataW H) (p1 : List MemPlace)
    (k0 : Value.okWide Try.prog W .any base 32 v0) (h0 : DataW.Trod enc Try.prog W 0 (fun _ => true) true 32 v0 d0 p0)
    (k1 : Value.okWide Try.prog W .any base 3 v1) (h1 : DataW.Trod enc Try.prog W 0 (fun _ => true) true 3 v1 d1 p1) (s0 : Small Try.prog 32 d0) (s1 : Small Try.prog 3 d1) :
    Calls Try.prog 7 #[v0, v1] W fun e W' => e = .returned (.bool true) ∧ Below W.heap.size W W' := by
  obtain ⟨c0, c1, y0, y1, m, rfl, rfl, _, hy0, hy1⟩ := open_agg2 Try.underlying32 (by kernel_rfl) (by kernel_rfl) k0 h0
  obtain ⟨l, hr, hl⟩ := open_bytes hy0 (Small.part (j := 0) Try.underlying32 s0 rfl rfl)
  obtain ⟨sy, e1, _, _⟩ := DataW.trod_int Try.underlying3 hy1
  simp only [List.cons.injEq, and_true] at e1
  subst e1
  obtain ⟨keep, rfl, _, _, wk⟩ := open_int Try.underlying3 k1 h1
  exact bookCrashes_walk c0 sy keep l W hr hl (by simp [Lit.wf, IntKind.min, IntKind.max, IntKind.signed, IntKind.bits] at wk; omega)
end Go.Proofs.Ytdofgjpgppaghaa

/- The law BookSyncs: P10.6. -/
import Derived.Test.YtdofgjpgppaghaaOpenB
namespace Go.Proofs.Ytdofgjpgppaghaa
open Go.RowKit
set_option linter.unusedSimpArgs false
set_option linter.unusedVariables false
open Go.Joins
set_option maxRecDepth 20000 in
theorem Sync_no (A : Option Addr) (n c : Nat) (sy : Int) (w : World) (hn : n ≤ maxLen) (h : ¬ (n ≤ 100000 ∧ 0 ≤ sy ∧ sy ≤ n)) :
    Calls Try.prog 17 #[.agg #[.slice A n c, .int .i64 sy]] w fun e w' => e = .returned (.tuple #[.agg #[.slice none 0 0, .int .i64 0], .int .i64 11]) ∧ Below w.heap.size w w' := by
  have HH := Lib.hid h
  clear h
  go_enter Try.func17, Try.ntmps17
  go_wp2_with (go_at_call 35; refine (open_no A n c sy _ hn HH.out).mono ?_; rintro e w1 ⟨rfl, hb⟩; obtain ⟨k1a, k1b, k1c⟩ := own_at hb (b := w.heap.size) (by first | omega | (simp; done) | (simp; omega)); obtain ⟨k2a, k2b, k2c⟩ := own_at hb (b := w.heap.size + 1) (by first | omega | (simp; done) | (simp; omega)))
  refine bodyPost_ret (v := .tuple #[.agg #[.slice none 0 0, .int .i64 0], .int .i64 11]) (by simp [results, Try.results17, go_sem, *]) rfl ⟨rfl, ?_⟩
  (repeat (first | with_reducible exact hb | with_reducible refine Below.trans ?_ (Below.mono hb ?_) | with_reducible exact Below.refl _ _ | with_reducible refine Below.setCell ?_ ?_ _ | with_reducible refine Below.alloc ?_ ?_ _ | with_reducible refine Below.drew ?_ | with_reducible refine below_drewN ?_ _))
  all_goals (first | omega | (simp; done) | (simp; omega))
set_option maxRecDepth 20000 in
theorem TapeSynced_no (A : Option Addr) (n c : Nat) (sy : Int) (w : World) (hn : n ≤ maxLen) (h : ¬ (n ≤ 100000 ∧ 0 ≤ sy ∧ sy ≤ n)) :
    Calls Try.prog 18 #[.agg #[.slice A n c, .int .i64 sy]] w fun e w' => e = .returned (.tuple #[.agg #[.slice none 0 0, .int .i64 0], .int .i64 11]) ∧ Below w.heap.size w w' := by
  have HB := Lib.hid (show (decide (n ≤ 100000) && (decide (0 ≤ sy) && decide (sy ≤ (n : Int)))) = false by simp; omega)
  clear h
  go_enter Try.func18, Try.ntmps18
  go_wp2_with (go_at_call 36; refine (TapeMay_any A n c sy _ hn).mono ?_; rintro e w1 ⟨rfl, hb⟩; obtain ⟨k3a, k3b, k3c⟩ := own_at hb (b := w.heap.size) (by first | omega | (simp; done) | (simp; omega)); obtain ⟨k4a, k4b, k4c⟩ := own_at hb (b := w.heap.size + 1) (by first | omega | (simp; done) | (simp; omega)); rw [HB.out])
  refine bodyPost_ret (v := .tuple #[.agg #[.slice none 0 0, .int .i64 0], .int .i64 11]) (by simp [results, Try.results18, go_sem, *]) rfl ⟨rfl, ?_⟩
  (repeat (first | with_reducible exact hb | with_reducible refine Below.trans ?_ (Below.mono hb ?_) | with_reducible exact Below.refl _ _ | with_reducible refine Below.setCell ?_ ?_ _ | with_reducible refine Below.alloc ?_ ?_ _ | with_reducible refine Below.drew ?_ | with_reducible refine below_drewN ?_ _))
  all_goals (first | omega | (simp; done) | (simp; omega))

/-- what both calls answer -/
def syncD (l : List UInt8) (sy : Int) : List UInt8 × Int × Int := if l.length ≤ 100000 ∧ 0 ≤ sy ∧ sy ≤ l.length then (l, l.length, 0) else ([], 0, 11)
theorem Sync_any (v : Value) (sy : Int) (l : List UInt8) (w : World) (D : Nat → Prop) (h : RB w D v l) (hD : ∀ b, D b → b < w.heap.size) :
    Calls Try.prog 17 #[.agg #[v, .int .i64 sy]] w fun e w' => ∃ v', e = .returned (.tuple #[.agg #[v', .int .i64 (syncD l sy).2.1], .int .i64 (syncD l sy).2.2]) ∧ RB w' (New w w') v' (syncD l sy).1 ∧ Below w.heap.size w w' := by
  by_cases hh : l.length ≤ 100000 ∧ 0 ≤ sy ∧ sy ≤ l.length
  · have e : syncD l sy = (l, (l.length : Int), 0) := if_pos hh
    rw [e]
    exact Sync_yes v sy l w D h hD hh.1 hh.2.1 hh.2.2
  · have e : syncD l sy = ([], 0, 11) := if_neg hh
    rw [e]
    have hm := h.bound
    obtain ⟨A, c, rfl, _⟩ := h.ex
    exact (Sync_no A l.length c sy w hm hh).mono fun _ _ ⟨h1, h2⟩ => ⟨_, h1, RB_nil _ _, h2⟩
theorem TapeSynced_any (v : Value) (sy : Int) (l : List UInt8) (w : World) (D : Nat → Prop) (h : RB w D v l) (hD : ∀ b, D b → b < w.heap.size) :
    Calls Try.prog 18 #[.agg #[v, .int .i64 sy]] w fun e w' => ∃ v', e = .returned (.tuple #[.agg #[v', .int .i64 (syncD l sy).2.1], .int .i64 (syncD l sy).2.2]) ∧ RB w' (New w w') v' (syncD l sy).1 ∧ Below w.heap.size w w' := by
  by_cases hh : l.length ≤ 100000 ∧ 0 ≤ sy ∧ sy ≤ l.length
  · have e : syncD l sy = (l, (l.length : Int), 0) := if_pos hh
    rw [e]
    exact TapeSynced_yes v sy l w D h hD hh.1 hh.2.1 hh.2.2
  · have e : syncD l sy = ([], 0, 11) := if_neg hh
    rw [e]
    have hm := h.bound
    obtain ⟨A, c, rfl, _⟩ := h.ex
    exact (TapeSynced_no A l.length c sy w hm hh).mono fun _ _ ⟨h1, h2⟩ => ⟨_, h1, RB_nil _ _, h2⟩

theorem RB.is : IsRep RB := ⟨fun h k => RB.keep h k, fun h k => RB.mono h k⟩

set_option maxRecDepth 20000 in
set_option maxHeartbeats 400000 in
theorem bookSyncs_walk (v : Value) (sy : Int) (l : List UInt8) (w : World) (h : RB w (· < w.heap.size) v l) (hl : l.length ≤ 140737488355328) :
    Calls Try.prog 6 #[.agg #[v, .int .i64 sy]] w fun e w' => e = .returned (.bool true) ∧ Below w.heap.size w w' := by
  obtain ⟨A, c, rfl, h⟩ := h.ex
  have H := Lib.hid h
  clear h
  go_enter Try.func6, Try.ntmps6
  go_wp2_with fail
  refine (tapes_any _ sy l _ (· < w.heap.size) (by refine RB.is.to H.out ?_ ?_ <;> first | (intro b hb; first | omega | (simp; omega) | (simp at hb; omega) | (simp at hb ⊢; omega) | (simp [New] at hb; omega) | (simp [New] at hb ⊢; omega) | (simp [New] at hb ⊢; done)) | ((repeat (first | with_reducible exact Keeps.refl _ _ | with_reducible refine Keeps.al' ?_ ?_ _ | with_reducible refine Keeps.st' ?_ ?_ _ | with_reducible refine Keeps.dr' ?_ | with_reducible refine Keeps.drN' ?_)); all_goals (intro b hb; first | omega | (simp; omega) | (simp at hb; omega) | (simp at hb ⊢; omega) | (simp [New] at hb; omega) | (simp [New] at hb ⊢; omega) | (simp [New] at hb ⊢; done)))) (by intro b hb; simp; omega) hl).mono ?_
  rintro e w1 ⟨v1, rfl, hr1, hb1⟩
  obtain ⟨k5a, k5b, k5c⟩ := own_at hb1 (b := w.heap.size) (by first | omega | (simp; done) | (simp; omega))
  obtain ⟨A1, c1, rfl, hr1⟩ := hr1.ex
  have HR1 := Lib.hid hr1
  clear hr1
  go_wp2_with fail
  refine (Sync_any _ sy l _ _ (by refine RB.is.to HR1.out ?_ ?_ <;> first | (intro b hb; first | omega | (simp; omega) | (simp at hb; omega) | (simp at hb ⊢; omega) | (simp [New] at hb; omega) | (simp [New] at hb ⊢; omega) | (simp [New] at hb ⊢; done)) | ((repeat (first | with_reducible exact Keeps.refl _ _ | with_reducible refine Keeps.al' ?_ ?_ _ | with_reducible refine Keeps.st' ?_ ?_ _ | with_reducible refine Keeps.dr' ?_ | with_reducible refine Keeps.drN' ?_)); all_goals (intro b hb; first | omega | (simp; omega) | (simp at hb; omega) | (simp at hb ⊢; omega) | (simp [New] at hb; omega) | (simp [New] at hb ⊢; omega) | (simp [New] at hb ⊢; done)))) (fun b h => h)).mono ?_
  rintro e w2 ⟨v2, rfl, hr2, hb2⟩
  obtain ⟨k6a, k6b, k6c⟩ := own_at hb2 (b := w.heap.size) (by first | omega | (simp; done) | (simp; omega)); obtain ⟨k7a, k7b, k7c⟩ := own_at hb2 (b := w1.heap.size) (by first | omega | (simp; done) | (simp; omega))
  obtain ⟨A2, c2, rfl, hr2⟩ := hr2.ex
  have HR2 := Lib.hid hr2
  clear hr2
  go_wp2_with fail
  refine (TapeSynced_any _ sy l _ _ (by refine RB.is.to H.out ?_ ?_ <;> first | (intro b hb; first | omega | (simp; omega) | (simp at hb; omega) | (simp at hb ⊢; omega) | (simp [New] at hb; omega) | (simp [New] at hb ⊢; omega) | (simp [New] at hb ⊢; done)) | ((repeat (first | with_reducible refine Keeps.bl' ?_ hb2 ?_ | with_reducible refine Keeps.bl' ?_ hb1 ?_ | with_reducible exact Keeps.refl _ _ | with_reducible refine Keeps.al' ?_ ?_ _ | with_reducible refine Keeps.st' ?_ ?_ _ | with_reducible refine Keeps.dr' ?_ | with_reducible refine Keeps.drN' ?_)); all_goals (intro b hb; first | omega | (simp; omega) | (simp at hb; omega) | (simp at hb ⊢; omega) | (simp [New] at hb; omega) | (simp [New] at hb ⊢; omega) | (simp [New] at hb ⊢; done)))) (fun b h => h)).mono ?_
  rintro e w3 ⟨v3, rfl, hr3, hb3⟩
  obtain ⟨k8a, k8b, k8c⟩ := own_at hb3 (b := w.heap.size) (by first | omega | (simp; done) | (simp; omega)); obtain ⟨k9a, k9b, k9c⟩ := own_at hb3 (b := w1.heap.size) (by first | omega | (simp; done) | (simp; omega)); obtain ⟨k10a, k10b, k10c⟩ := own_at hb3 (b := w2.heap.size) (by first | omega | (simp; done) | (simp; omega))
  obtain ⟨A3, c3, rfl, hr3⟩ := hr3.ex
  have HR3 := Lib.hid hr3
  clear hr3
  go_wp2_with fail
  refine (sameTape_yes _ _ _ _ _ _ (fun b h => h) (by refine RB.is.to HR2.out ?_ ?_ <;> first | (intro b hb; first | omega | (simp; omega) | (simp at hb; omega) | (simp at hb ⊢; omega) | (simp [New] at hb; omega) | (simp [New] at hb ⊢; omega) | (simp [New] at hb ⊢; done)) | ((repeat (first | with_reducible refine Keeps.bl' ?_ hb3 ?_ | with_reducible exact Keeps.refl _ _ | with_reducible refine Keeps.al' ?_ ?_ _ | with_reducible refine Keeps.st' ?_ ?_ _ | with_reducible refine Keeps.dr' ?_ | with_reducible refine Keeps.drN' ?_)); all_goals (intro b hb; first | omega | (simp; omega) | (simp at hb; omega) | (simp at hb ⊢; omega) | (simp [New] at hb; omega) | (simp [New] at hb ⊢; omega) | (simp [New] at hb ⊢; done)))) (by refine RB.is.to HR3.out ?_ ?_ <;> first | (intro b hb; first | omega | (simp; omega) | (simp at hb; omega) | (simp at hb ⊢; omega) | (simp [New] at hb; omega) | (simp [New] at hb ⊢; omega) | (simp [New] at hb ⊢; done)) | ((repeat (first | with_reducible exact Keeps.refl _ _ | with_reducible refine Keeps.al' ?_ ?_ _ | with_reducible refine Keeps.st' ?_ ?_ _ | with_reducible refine Keeps.dr' ?_ | with_reducible refine Keeps.drN' ?_)); all_goals (intro b hb; first | omega | (simp; omega) | (simp at hb; omega) | (simp at hb ⊢; omega) | (simp [New] at hb; omega) | (simp [New] at hb ⊢; omega) | (simp [New] at hb ⊢; done))))).mono ?_
  rintro e w4 ⟨rfl, hb4⟩
  obtain ⟨k11a, k11b, k11c⟩ := own_at hb4 (b := w.heap.size) (by first | omega | (simp; done) | (simp; omega)); obtain ⟨k12a, k12b, k12c⟩ := own_at hb4 (b := w1.heap.size) (by first | omega | (simp; done) | (simp; omega)); obtain ⟨k13a, k13b, k13c⟩ := own_at hb4 (b := w2.heap.size) (by first | omega | (simp; done) | (simp; omega)); obtain ⟨k14a, k14b, k14c⟩ := own_at hb4 (b := w3.heap.size) (by first | omega | (simp; done) | (simp; omega))
  go_wp2_with fail
  refine (sameTape_yes _ _ _ _ _ _ (fun b h => h) (by refine RB.is.to HR1.out ?_ ?_ <;> first | (intro b hb; first | omega | (simp; omega) | (simp at hb; omega) | (simp at hb ⊢; omega) | (simp [New] at hb; omega) | (simp [New] at hb ⊢; omega) | (simp [New] at hb ⊢; done)) | ((repeat (first | with_reducible refine Keeps.bl' ?_ hb4 ?_ | with_reducible refine Keeps.bl' ?_ hb3 ?_ | with_reducible refine Keeps.bl' ?_ hb2 ?_ | with_reducible exact Keeps.refl _ _ | with_reducible refine Keeps.al' ?_ ?_ _ | with_reducible refine Keeps.st' ?_ ?_ _ | with_reducible refine Keeps.dr' ?_ | with_reducible refine Keeps.drN' ?_)); all_goals (intro b hb; first | omega | (simp; omega) | (simp at hb; omega) | (simp at hb ⊢; omega) | (simp [New] at hb; omega) | (simp [New] at hb ⊢; omega) | (simp [New] at hb ⊢; done)))) (by refine RB.is.to H.out ?_ ?_ <;> first | (intro b hb; first | omega | (simp; omega) | (simp at hb; omega) | (simp at hb ⊢; omega) | (simp [New] at hb; omega) | (simp [New] at hb ⊢; omega) | (simp [New] at hb ⊢; done)) | ((repeat (first | with_reducible refine Keeps.bl' ?_ hb4 ?_ | with_reducible refine Keeps.bl' ?_ hb3 ?_ | with_reducible refine Keeps.bl' ?_ hb2 ?_ | with_reducible refine Keeps.bl' ?_ hb1 ?_ | with_reducible exact Keeps.refl _ _ | with_reducible refine Keeps.al' ?_ ?_ _ | with_reducible refine Keeps.st' ?_ ?_ _ | with_reducible refine Keeps.dr' ?_ | with_reducible refine Keeps.drN' ?_)); all_goals (intro b hb; first | omega | (simp; omega) | (simp at hb; omega) | (simp at hb ⊢; omega) | (simp [New] at hb; omega) | (simp [New] at hb ⊢; omega) | (simp [New] at hb ⊢; done))))).mono ?_
  rintro e w5 ⟨rfl, hb5⟩
  go_wp2_with fail
  go_ret
  refine ⟨rfl, ?_⟩
  (repeat (first | with_reducible exact hb5 | with_reducible refine Below.trans ?_ (Below.mono hb5 ?_) | with_reducible exact hb4 | with_reducible refine Below.trans ?_ (Below.mono hb4 ?_) | with_reducible exact hb3 | with_reducible refine Below.trans ?_ (Below.mono hb3 ?_) | with_reducible exact hb2 | with_reducible refine Below.trans ?_ (Below.mono hb2 ?_) | with_reducible exact hb1 | with_reducible refine Below.trans ?_ (Below.mono hb1 ?_) | with_reducible exact Below.refl _ _ | with_reducible refine Below.setCell ?_ ?_ _ | with_reducible refine Below.alloc ?_ ?_ _ | with_reducible refine Below.drew ?_ | with_reducible refine below_drewN ?_ _))
  all_goals (first | omega | (simp; done) | (simp; omega))

theorem bookSyncs_run {H : Type} {enc : TypeId × Value → H} (W : World) (base : Nat) (v0 : Value) (d0 : DataW H) (p0 : List MemPlace)
    (k0 : Value.okWide Try.prog W .any base 32 v0) (h0 : DataW.Trod enc Try.prog W 0 (fun _ => true) true 32 v0 d0 p0) (s0 : Small Try.prog 32 d0) :
    Calls Try.prog 6 #[v0] W fun e W' => e = .returned (.bool true) ∧ Below W.heap.size W W' := by
  obtain ⟨c0, c1, y0, y1, m, rfl, rfl, _, hy0, hy1⟩ := open_agg2 Try.underlying32 (by kernel_rfl) (by kernel_rfl) k0 h0
  obtain ⟨l, hr, hl⟩ := open_bytes hy0 (Small.part (j := 0) Try.underlying32 s0 rfl rfl)
  obtain ⟨sy, e1, _, _⟩ := DataW.trod_int Try.underlying3 hy1
  simp only [List.cons.injEq, and_true] at e1
  subst e1
  exact bookSyncs_walk c0 sy l W hr hl
end Go.Proofs.Ytdofgjpgppaghaa

/- Tapes: Sync, TapeSynced. -/
import Derived.Test.YtdofgjpgppaghaaTapeC
namespace Go.Proofs.Ytdofgjpgppaghaa
open Go.RowKit
set_option linter.unusedSimpArgs false
set_option linter.unusedVariables false
theorem RB.ex {w : World} {D : Nat → Prop} {v : Value} {l : List UInt8} (h : RB w D v l) : ∃ A c, v = .slice A l.length c ∧ RB w D (.slice A l.length c) l := by
  have h' := h
  obtain ⟨A, c, rfl, _⟩ := h
  exact ⟨A, c, rfl, h'⟩
theorem RB.bound {w : World} {D : Nat → Prop} {v : Value} {l : List UInt8} (h : RB w D v l) : l.length ≤ maxLen := by
  obtain ⟨A, c, rfl, h1, h2, _⟩ := h
  omega
theorem RB.in1 {w : World} {D : Nat → Prop} {v : Value} {l : List UInt8} (h : RB w D v l) (hD : ∀ b, D b → b < w.heap.size) (o : Obj) : RB (w.alloc o) D v l := h.keep (Keeps.alloc hD o)
theorem lt1 {w : World} {D : Nat → Prop} (hD : ∀ b, D b → b < w.heap.size) (o : Obj) : ∀ b, D b → b < (w.alloc o).heap.size := fun b hb => by have := hD b hb; simp; omega

theorem RB.st {w : World} {D : Nat → Prop} {v : Value} {l : List UInt8} (h : RB w D v l) {p : Addr} (hD : ∀ b, D b → b ≠ p.block) (x : Value) : RB (w.setCell p x) D v l := h.keep (Keeps.setCell hD x)

set_option maxRecDepth 20000 in
theorem Sync_yes (v : Value) (sy : Int) (l : List UInt8) (w : World) (D : Nat → Prop) (h : RB w D v l) (hD : ∀ b, D b → b < w.heap.size) (m1 : l.length ≤ 100000) (m2 : 0 ≤ sy) (m3 : sy ≤ l.length) :
    Calls Try.prog 17 #[.agg #[v, .int .i64 sy]] w fun e w' => ∃ v', e = .returned (.tuple #[.agg #[v', .int .i64 l.length], .int .i64 0]) ∧ RB w' (New w w') v' l ∧ Below w.heap.size w w' := by
  obtain ⟨A, c, rfl, h⟩ := h.ex
  have HS := Lib.hid ((h.in1 hD _).in1 (lt1 hD (.cells #[.slice A l.length c, .int .i64 sy] 32)) (.cells #[.slice none 0 0, .int .i64 0] 32))
  have HD := Lib.hid (lt1 (lt1 hD (.cells #[.slice A l.length c, .int .i64 sy] 32)) (.cells #[.slice none 0 0, .int .i64 0] 32))
  clear h hD
  go_enter Try.func17, Try.ntmps17
  go_wp2_with (go_at_call 35; refine (open_yes _ sy l _ D (by exact HS.out) (by exact HD.out) m1 m2 m3).mono ?_; rintro e w1 ⟨v', rfl, hr, hb⟩; obtain ⟨k1a, k1b, k1c⟩ := own_at hb (b := w.heap.size) (by first | omega | (simp; done) | (simp; omega)); obtain ⟨k2a, k2b, k2c⟩ := own_at hb (b := w.heap.size + 1) (by first | omega | (simp; done) | (simp; omega)); obtain ⟨A1, c1, rfl, hr⟩ := hr.ex; have HR := Lib.hid hr; clear hr)
  refine bodyPost_ret (v := .tuple #[.agg #[.slice A1 l.length c1, .int .i64 l.length], .int .i64 0]) (by simp [results, Try.results17, go_sem, *]) rfl ⟨_, rfl, ?_, ?_⟩
  · refine (RB.keep HR.out ?_).mono (fun b hb => ?_)
    · (repeat (first | with_reducible exact Keeps.refl _ _ | with_reducible refine Keeps.al' ?_ ?_ _ | with_reducible refine Keeps.st' ?_ ?_ _ | with_reducible refine Keeps.dr' ?_ | with_reducible refine Keeps.drN' ?_))
      all_goals (intro b hb; have h1 := hb.1; have h2 := hb.2; first | omega | (simp; done) | (simp; omega) | (simp at h1; omega) | (simp at h1 ⊢; omega) | (simp at h1 h2 ⊢; omega))
    · have h1 := hb.1
      have h2 := hb.2
      simp at h1
      exact ⟨by omega, by simp; omega⟩
  · (repeat (first | with_reducible exact hb | with_reducible refine Below.trans ?_ (Below.mono hb ?_) | with_reducible exact Below.refl _ _ | with_reducible refine Below.setCell ?_ ?_ _ | with_reducible refine Below.alloc ?_ ?_ _ | with_reducible refine Below.drew ?_ | with_reducible refine below_drewN ?_ _))
    all_goals (first | omega | (simp; done) | (simp; omega))

set_option maxRecDepth 20000 in
theorem TapeSynced_yes (v : Value) (sy : Int) (l : List UInt8) (w : World) (D : Nat → Prop) (h : RB w D v l) (hD : ∀ b, D b → b < w.heap.size) (m1 : l.length ≤ 100000) (m2 : 0 ≤ sy) (m3 : sy ≤ l.length) :
    Calls Try.prog 18 #[.agg #[v, .int .i64 sy]] w fun e w' => ∃ v', e = .returned (.tuple #[.agg #[v', .int .i64 l.length], .int .i64 0]) ∧ RB w' (New w w') v' l ∧ Below w.heap.size w w' := by
  obtain ⟨A, c, rfl, h⟩ := h.ex
  have hm := h.bound
  have HS := Lib.hid ((h.in1 hD _).in1 (lt1 hD (.cells #[.slice A l.length c, .int .i64 sy] 32)) (.cells #[.slice none 0 0, .int .i64 0] 32))
  have HD := Lib.hid (lt1 (lt1 hD (.cells #[.slice A l.length c, .int .i64 sy] 32)) (.cells #[.slice none 0 0, .int .i64 0] 32))
  clear h hD
  have HB := Lib.hid (show (decide (l.length ≤ 100000) && (decide (0 ≤ sy) && decide (sy ≤ (l.length : Int)))) = true by simp [m1, m2, m3])
  go_enter Try.func18, Try.ntmps18
  go_wp2_with (go_at_call 36; refine (TapeMay_any A _ c sy _ hm).mono ?_; rintro e w1 ⟨rfl, hb⟩; obtain ⟨k3a, k3b, k3c⟩ := own_at hb (b := w.heap.size) (by first | omega | (simp; done) | (simp; omega)); obtain ⟨k4a, k4b, k4c⟩ := own_at hb (b := w.heap.size + 1) (by first | omega | (simp; done) | (simp; omega)); rw [HB.out])
  have HD1 := Lib.hid (show ∀ b, D b → b < w1.heap.size from fun b hb' => Nat.lt_of_lt_of_le (HD.out b hb') hb.size)
  have HS1 := Lib.hid (HS.out.keep ((Keeps.of_below hb).mono HD.out))
  go_region_held3 (fun w' => w'.cell? ⟨w.heap.size, 0, none⟩ = some (.slice A l.length c) ∧ w'.cell? ⟨w.heap.size, 1, none⟩ = some (.int .i64 sy))
    (((try dsimp only); (repeat' apply And.intro) <;> (go_keep; done)))
    ((go_at_call 37; refine (joined_any _ _ l [] _ D (by exact HS1.out) (RB_nil _ _) (by exact HD1.out) (by simp; omega)).mono ?_; rintro e w2 ⟨v', rfl, hr, hb2⟩; obtain ⟨k5a, k5b, k5c⟩ := own_at hb2 (b := w.heap.size) (by first | omega | (simp; done) | (simp; omega)); obtain ⟨k6a, k6b, k6c⟩ := own_at hb2 (b := w.heap.size + 1) (by first | omega | (simp; done) | (simp; omega)); rw [List.append_nil] at hr; obtain ⟨A1, c1, rfl, hr⟩ := hr.ex; have HR := Lib.hid hr; clear hr))
  go_wp2
  refine bodyPost_ret (v := .tuple #[.agg #[.slice A1 l.length c1, .int .i64 l.length], .int .i64 0]) (by simp [results, Try.results18, go_sem, *]) rfl ⟨_, rfl, ?_, ?_⟩
  · refine (RB.keep HR.out ?_).mono (fun b hb => ?_)
    · (repeat (first | with_reducible exact Keeps.refl _ _ | with_reducible refine Keeps.al' ?_ ?_ _ | with_reducible refine Keeps.st' ?_ ?_ _ | with_reducible refine Keeps.dr' ?_ | with_reducible refine Keeps.drN' ?_))
      all_goals (intro b hb; have h1 := hb.1; have h2 := hb.2; first | omega | (simp; done) | (simp; omega) | (simp at h1; omega) | (simp at h1 ⊢; omega) | (simp at h1 h2 ⊢; omega))
    · have h1 := hb.1
      have h2 := hb.2
      simp at h1
      exact ⟨by omega, by simp; omega⟩
  · (repeat (first | with_reducible exact hb2 | with_reducible refine Below.trans ?_ (Below.mono hb2 ?_) | with_reducible exact hb | with_reducible refine Below.trans ?_ (Below.mono hb ?_) | with_reducible exact Below.refl _ _ | with_reducible refine Below.setCell ?_ ?_ _ | with_reducible refine Below.alloc ?_ ?_ _ | with_reducible refine Below.drew ?_ | with_reducible refine below_drewN ?_ _))
    all_goals (first | omega | (simp; done) | (simp; omega))
end Go.Proofs.Ytdofgjpgppaghaa

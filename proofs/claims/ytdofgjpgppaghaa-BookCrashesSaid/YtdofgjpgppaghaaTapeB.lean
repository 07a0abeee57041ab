/- Tapes: slices.Clone at bytes, open, TapeMay, joined, sameTape. -/
import Derived.Test.YtdofgjpgppaghaaTape
import Derived.Lib.SliceRun
namespace Go.Proofs.Ytdofgjpgppaghaa
open Go.RowKit
set_option linter.unusedSimpArgs false
set_option linter.unusedVariables false


set_option maxRecDepth 20000 in
theorem cloneB_any (v : Value) (l : List UInt8) (w : World) (D : Nat → Prop) (h : RB w D v l) (hD : ∀ b, D b → b < w.heap.size) (hl : l.length ≤ 140737488355328) :
    Calls Try.prog 53 #[v] w fun e w' => ∃ v', e = .returned v' ∧ RB w' (New w w') v' l ∧ Below w.heap.size w w' := by
  obtain ⟨A, c, rfl, h2, h3, h4, h5⟩ := h
  rcases A with _ | ad
  · have h0 : l = [] := by
      rcases l with _ | ⟨x, l⟩
      · rfl
      · obtain ⟨_, _, e', _⟩ := h5.2 (by simp)
        cases e'
    subst h0
    have hc0 := h4 rfl
    subst hc0
    clear h4 h5
    have heq := fun wx : World => Lib.run_eql_slice_nil (P := Try.prog) wx 30 5 none 0 0 0 0 Try.underlying30
    go_enter Try.func53, Try.ntmps53
    go_wp2
    go_ret
    exact ⟨_, rfl, ⟨none, 0, rfl, by simp, by decide, fun _ => rfl, Sl.nil _ _ _ _⟩, Below.refl _ _⟩
  · have HS := Lib.hid (h5.keep (Keeps.alloc hD (.cells #[] 5)))
    clear h4 h5
    have heq := fun wx : World => Lib.run_eql_slice_nil (P := Try.prog) wx 30 5 (some ad) l.length c 0 0 Try.underlying30
    go_enter Try.func53, Try.ntmps53
    go_wp2_with (refine wpList_append_sl elb rfl _ _ rfl rfl (World.ownsRow_made w #[] 0 (Nat.le_refl _) (by decide) rfl) rfl HS.out (bvs_one l) (by simp) (by unfold maxLen; omega) (by omega) (by simp) ?_; intro A1 c1 w1 hown1 hgr1 hb1)
    go_ret
    rw [Nat.zero_add, List.nil_append] at hown1
    refine ⟨_, rfl, ?_, ((Below.refl _ _).alloc (Nat.le_refl _) _).trans hb1⟩
    exact RB.of_own rfl hown1

/-- P10.1 -/
def tapeMay (l : List UInt8) (sy : Int) : Bool := decide (l.length ≤ 100000) && (decide (0 ≤ sy) && decide (sy ≤ l.length))

theorem TapeMay_any (A : Option Addr) (n c : Nat) (sy : Int) (w : World) (hn : n ≤ maxLen) :
    Calls Try.prog 36 #[.agg #[.slice A n c, .int .i64 sy]] w fun e w' => e = .returned (.bool (decide (n ≤ 100000) && (decide (0 ≤ sy) && decide (sy ≤ n)))) ∧ Below w.heap.size w w' := by
  unfold maxLen at hn
  by_cases h1 : n ≤ 100000
  · go_enter Try.func36, Try.ntmps36
    go_wp2_with (go_at_call 32; refine (In_any _ _ _ _).mono ?_; rintro e w' ⟨rfl, rfl⟩)
    go_ret
    exact ⟨by simp [h1], (Below.refl _ _).alloc (Nat.le_refl _) _⟩
  · have h1' : 100000 < n := by omega
    go_enter Try.func36, Try.ntmps36
    go_wp2
    go_ret
    exact ⟨by simp [h1], (Below.refl _ _).alloc (Nat.le_refl _) _⟩

set_option maxRecDepth 20000 in
theorem sameTape_yes (v v' : Value) (sy : Int) (l : List UInt8) (w : World) (D : Nat → Prop) (hD : ∀ b, D b → b < w.heap.size) (h : RB w D v l) (h' : RB w D v' l) :
    Calls Try.prog 19 #[.agg #[v, .int .i64 sy], .agg #[v', .int .i64 sy]] w fun e w' => e = .returned (.bool true) ∧ Below w.heap.size w w' := by
  obtain ⟨A, c, rfl, h2, h3, h4, h5⟩ := h
  obtain ⟨A', c', rfl, h2', h3', h4', h5'⟩ := h'
  have k1 := Keeps.alloc hD (.cells #[.slice A l.length c, .int .i64 sy] 32)
  have k2 := Keeps.alloc (w := w.alloc (.cells #[.slice A l.length c, .int .i64 sy] 32)) (fun b hb => by have := hD b hb; simp; omega) (.cells #[.slice A' l.length c', .int .i64 sy] 32)
  have HS := Lib.hid ((h5.keep k1).keep k2)
  have HS' := Lib.hid ((h5'.keep k1).keep k2)
  clear h4 h5 h4' h5' k1 k2
  go_enter Try.func19, Try.ntmps19
  go_wp2_with (first
    | (refine wpList_string_of rfl (.tmp 12) 30 9 5 rfl Try.underlying30 Try.underlying5 Try.underlying9 rfl HS.out ?_)
    | (refine wpList_string_of rfl (.tmp 15) 30 9 5 rfl Try.underlying30 Try.underlying5 Try.underlying9 rfl HS'.out ?_))
  go_ret
  exact ⟨by simp, ((Below.refl _ _).alloc (Nat.le_refl _) _).alloc (by simp) _⟩
end Go.Proofs.Ytdofgjpgppaghaa

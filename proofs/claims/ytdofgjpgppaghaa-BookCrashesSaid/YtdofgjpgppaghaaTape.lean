/- Tapes: copies, TapeMay, open, joined, sameTape. -/
import Derived.Test.YtdofgjpgppaghaaStr
import Derived.Test.YtdofgjpgppaghaaRule
import Derived.Deep.RegionHeld3
namespace Go.Proofs.Ytdofgjpgppaghaa
open Go.RowKit
set_option linter.unusedSimpArgs false
set_option linter.unusedVariables false

theorem elb : Elem Try.prog 30 5 1 1 := ⟨Try.underlying30, by kernel_rfl, by decide⟩
theorem bvs_one (l : List UInt8) : ∀ u ∈ l.map bv, u.oneCell' = true := by
  intro u hu
  obtain ⟨b, _, rfl⟩ := List.mem_map.1 hu
  rfl

/-- a []byte reads -/
def RB (w : World) (D : Nat → Prop) (v : Value) (l : List UInt8) : Prop :=
  ∃ A c, v = .slice A l.length c ∧ l.length ≤ c ∧ c ≤ maxLen ∧ (A = none → c = 0) ∧ Sl w D 1 A l.length (l.map bv)
theorem RB.keep {w w' : World} {D : Nat → Prop} {v : Value} {l : List UInt8} (h : RB w D v l) (hk : Keeps D w w') : RB w' D v l := by
  obtain ⟨A, c, h1, h2, h3, h4, h5⟩ := h
  exact ⟨A, c, h1, h2, h3, h4, h5.keep hk⟩
theorem RB.mono {w : World} {D D' : Nat → Prop} {v : Value} {l : List UInt8} (h : RB w D v l) (hk : ∀ b, D b → D' b) : RB w D' v l := by
  obtain ⟨A, c, h1, h2, h3, h4, h5⟩ := h
  exact ⟨A, c, h1, h2, h3, h4, h5.mono hk⟩
theorem own_none {w : World} {base : Nat} {e : TypeId} {k n : Nat} {xs : List Value} {A : Option Addr} {c : Nat} (h : w.ownsRow base e k (.slice A n c) n xs) : A = none → c = 0 := by
  intro hA
  rcases h.2 with ⟨hv, _⟩ | ⟨g, cap, cur, hv, _⟩
  · injection hv
  · injection hv with h1; rw [hA] at h1; cases h1
theorem RB.of_own {w : World} {base : Nat} {v : Value} {n : Nat} {l : List UInt8} (hn : n = l.length) (h : w.ownsRow base 5 1 v n (l.map bv)) : RB w (fun b => base ≤ b ∧ b < w.heap.size) v l := by
  subst hn
  obtain ⟨A, c, rfl, h1, h2⟩ := own_form h
  exact ⟨A, c, rfl, h1, h2, own_none h, Sl.of_own h⟩

set_option maxRecDepth 20000 in
theorem tapes_any (v : Value) (sy : Int) (l : List UInt8) (w : World) (D : Nat → Prop) (h : RB w D v l) (hD : ∀ b, D b → b < w.heap.size) (hl : l.length ≤ 140737488355328) :
    Calls Try.prog 16 #[.agg #[v, .int .i64 sy]] w fun e w' => ∃ v', e = .returned (.agg #[v', .int .i64 sy]) ∧ RB w' (fun b => w.heap.size ≤ b ∧ b < w'.heap.size) v' l ∧ Below w.heap.size w w' := by
  obtain ⟨A, c, rfl, h2, h3, h4, h5⟩ := h
  have HA := Lib.hid h4
  have HS := Lib.hid ((h5.keep (Keeps.alloc hD (.cells #[.slice A l.length c, .int .i64 sy] 32))).keep (Keeps.alloc (fun b hb => by have := hD b hb; simp; omega) (.cells #[.slice none 0 0, .int .i64 0] 32)))
  clear h4 h5
  go_enter Try.func16, Try.ntmps16
  go_wp2_with fail
  go_region_held3 (fun w' => w'.cell? ⟨w.heap.size, 0, none⟩ = some (.slice A l.length c) ∧ w'.cell? ⟨w.heap.size, 1, none⟩ = some (.int .i64 sy))
    (((try dsimp only); (repeat' apply And.intro) <;> (go_keep; done)))
    ((refine step_copy_sl elb (by rfl) _ _ (by rfl) (by rfl) (w.heap.size + 2) (by rfl) HS.out (bvs_one l) HA.out (by unfold maxLen; omega) (by omega) (by simp) ?_; intro A1 c1 w1 hown1 hb1; obtain ⟨bc1, bf1⟩ := bcell hb1))
  go_wp2
  refine bodyPost_ret (v := .agg #[.slice A1 l.length c1, .int .i64 sy]) (by simp [results, Try.results16, go_sem, bc1]) rfl ⟨_, rfl, ?_, ?_⟩
  · have ho := ownsRow_setCell_below (a := ⟨w.heap.size + 1, 1, none⟩) (ownsRow_setCell_below (a := ⟨w.heap.size + 1, 0, none⟩) hown1 (Nat.lt_succ_self (w.heap.size + 1)) (.slice A1 l.length c1)) (Nat.lt_succ_self (w.heap.size + 1)) (.int .i64 sy)
    exact (RB.of_own rfl ho).mono (fun b hb => ⟨by omega, by simpa using hb.2⟩)
  · have hbw : Below w.heap.size w w1 := ((((Below.refl _ _).alloc (Nat.le_refl _) _).alloc (by simp) _).drew).trans (hb1.mono (by omega))
    exact (hbw.setCell (by simp) _).setCell (by simp) _
end Go.Proofs.Ytdofgjpgppaghaa

/- The law RuleFlags: P6.1. -/
import Derived.Test.YtdofgjpgppaghaaDoorFlags
import Derived.Test.YtdofgjpgppaghaaDoorRow
namespace Go.Proofs.YtdofgjpgppaghaaDoor
open Go.RowKit Go.ChangeShapes Go.WideShapes Go.ChangeAt
set_option linter.unusedSimpArgs false
set_option linter.unusedVariables false
open Go.ChangeShapes Go.WideShapes Go.ChangeAt
set_option maxRecDepth 20000 in
theorem ruleFlags_walk (v : Value) (l : List ByteArray) (w : World) (h : RF strF w (· < w.heap.size) v l) (hl : l.length * 16 ≤ 140737488355328) (hsz : ∀ s ∈ l, s.size ≤ maxLen)
    (hg : TextsAt w 0 flagNames) (hz : 0 < w.heap.size) :
    Calls Tryd.prog 3 #[v] w fun e w' => e = .returned (.bool true) ∧ Below w.heap.size w w' := by
  have H := Lib.hid h
  have HZ := Lib.hid hsz
  have HT := Lib.hid hg
  clear h hsz hg
  generalize hR : flagsR l = R
  have HR := Lib.hid hR
  clear hR
  go_enter Tryd.func3, Tryd.ntmps3
  go_wp2_with fail
  refine (texts_any v l _ H.out hl).mono ?_
  rintro e w1 ⟨v1, rfl, hr1, hb1⟩
  obtain ⟨A1, c1, rfl, hr1⟩ := hr1.ex
  have HR1 := Lib.hid hr1
  have z1 := hb1.size
  clear hr1
  go_wp2_with fail
  refine (Flags_any _ l _ (by refine RF.is.to HR1.out ?_ ?_ <;> first | (intro b hb; first | omega | (simp; omega) | (simp at hb; omega) | (simp at hb ⊢; omega) | (simp [New] at hb; omega) | (simp [New] at hb ⊢; omega) | (simp [New] at hb ⊢; done)) | ((repeat (first | with_reducible exact Keeps.refl _ _ | with_reducible refine Keeps.al' ?_ ?_ _ | with_reducible refine Keeps.st' ?_ ?_ _ | with_reducible refine Keeps.dr' ?_ | with_reducible refine Keeps.drN' ?_)); all_goals (intro b hb; first | omega | (simp; omega) | (simp at hb; omega) | (simp at hb ⊢; omega) | (simp [New] at hb; omega) | (simp [New] at hb ⊢; omega) | (simp [New] at hb ⊢; done)))) (HT.out.keep hb1 hz) (by omega)).mono ?_
  rintro e w2 ⟨rfl, d, rfl⟩
  rw [HR.out]
  go_wp2_with fail
  refine (FlagsOf_any v l _ (by refine RF.is.to H.out ?_ ?_ <;> first | (intro b hb; first | omega | (simp; omega) | (simp at hb; omega) | (simp at hb ⊢; omega) | (simp [New] at hb; omega) | (simp [New] at hb ⊢; omega) | (simp [New] at hb ⊢; done)) | ((repeat (first | with_reducible refine Keeps.bl' ?_ hb1 ?_ | with_reducible exact Keeps.refl _ _ | with_reducible refine Keeps.al' ?_ ?_ _ | with_reducible refine Keeps.st' ?_ ?_ _ | with_reducible refine Keeps.dr' ?_ | with_reducible refine Keeps.drN' ?_)); all_goals (intro b hb; first | omega | (simp; omega) | (simp at hb; omega) | (simp at hb ⊢; omega) | (simp [New] at hb; omega) | (simp [New] at hb ⊢; omega) | (simp [New] at hb ⊢; done)))) HZ.out).mono ?_
  rintro e w3 ⟨rfl, rfl⟩
  rw [HR.out]
  go_wp2_with fail
  go_ret
  exact ⟨by simp, below_drewN hb1 _⟩
theorem ruleFlags_run {H : Type} {enc : TypeId × Value → H} (W : World) (base : Nat) (v0 : Value) (d0 : DataW H) (p0 : List MemPlace)
    (k0 : Value.okWide Tryd.prog W .any base 22 v0) (h0 : DataW.Trod enc Tryd.prog W 0 (fun _ => true) true 22 v0 d0 p0) (s0 : Small Tryd.prog 22 d0)
    (hL : laidMetH Tryd.prog Rows.ruleFlagsRow.laid W) (hsh : W.ShapedOpen Tryd.prog) :
    Calls Tryd.prog 3 #[v0] W fun e W' => e = .returned (.bool true) ∧ Below W.heap.size W W' := by
  obtain ⟨fuel, h⟩ := h0
  obtain ⟨a, n, c, rfl⟩ := okWide_slice Tryd.underlying22 k0
  obtain ⟨l, hr, hl, hs⟩ := trod_strs h s0
  obtain ⟨t1, t2⟩ := texts_of_laid (zs := flagNames) (g := 0) (name := "postroom/rule.names") (by kernel_rfl) (by kernel_rfl) Tryd.underlying29 Tryd.underlying9 (by kernel_rfl) (by kernel_rfl) (List.mem_singleton.2 rfl) (by kernel_rfl) hL
  exact ruleFlags_walk _ l W hr hl (fun s hs' => by have := hs s hs'; unfold maxLen; omega) t1 t2
end Go.Proofs.YtdofgjpgppaghaaDoor

/- lower, Fold, FoldOf and the law GlobFolds: P1.1. -/
import Derived.Test.YtdofgjpgppaghaaGlobF
import Derived.Test.YtdofgjpgppaghaaRow
namespace Go.Proofs.Ytdofgjpgppaghaa
open Go.RowKit Go.ChangeShapes Go.WideShapes Go.ChangeAt
open Go.ChangeMaps (open_string)
set_option linter.unusedSimpArgs false
set_option linter.unusedVariables false

theorem el_u8 : Elem Try.prog 30 5 1 1 := ⟨Try.underlying30, by kernel_rfl, by decide⟩
theorem bv_one (l : List UInt8) : ∀ u ∈ l.map bv, u.oneCell' = true := by
  intro u hu
  obtain ⟨b, _, rfl⟩ := List.mem_map.1 hu
  rfl
theorem one_one (v : Value) (h : v.oneCell' = true) : ∀ u ∈ [v], u.oneCell' = true := by
  intro u hu
  rw [List.mem_singleton] at hu
  rw [hu]; exact h

set_option maxRecDepth 20000 in
theorem lower_any (s : ByteArray) (w : World) (hs : s.size ≤ 1000000) :
    Calls Try.prog 34 #[.string s] w fun e w' => e = .returned (.string (mk (foldL s))) ∧ Below w.heap.size w w' := by
  go_enter Try.func34, Try.ntmps34
  go_wp2_with fail
  go_loopw [3, 4, 5] (fun v i x5 wr => ∃ k : Nat, k ≤ s.size ∧ i = .int .i64 k ∧ Below w.heap.size w wr ∧ wr.ownsRow w.heap.size 5 1 v k (((foldL s).take k).map bv))
    (fun _ i _ _ => s.size - (intOf i).toNat)
  case atStart => exact ⟨0, Nat.zero_le _, rfl, Below.refl _ _, World.ownsRow_nil _ _ _ _⟩
  case round =>
    obtain ⟨k, hk, rfl, hb, hown⟩ := hrel
    have HO := Lib.hid hown
    clear hown
    by_cases hlt : k < s.size
    · have hu : (s[k].toNat : Int) < 256 := by have := s[k].toNat_lt; omega
      have HT := Lib.hid (show (foldL s).take (k + 1) = (foldL s).take k ++ [small s[k]] by
        rw [List.take_add_one, foldL_get s k hlt]; rfl)
      by_cases h : 65 ≤ (s[k].toNat : Int) ∧ (s[k].toNat : Int) ≤ 90
      · obtain ⟨h1, h2⟩ := h
        have HS := Lib.hid (small_yes s[k] h1 h2)
        go_wp2_with (first
          | (go_at_call 32; refine (In_yes _ _ _ _ h1 h2).mono ?_; rintro e w' ⟨rfl, rfl⟩)
          | (refine wpList_append_sl el_u8 rfl _ _ rfl rfl (HO.out.alloc _) rfl (Sl.new _ _ _ 1 rfl) (one_one _ rfl) (by simp) (by unfold maxLen; omega) (by omega) (by have := hb.size; simp; omega) ?_; intro v' w1 hown' hgr))
        go_roundw
        case rel =>
          refine ⟨k + 1, by omega, by go_num, hgr.below (hb.alloc hb.size _) (Nat.le_refl _) (by have := hb.size; simp; omega) (HO.out.alloc _), ?_⟩
          rw [HT.out, List.map_append]
          simpa [bv, HS.out] using hown'
        case measure => simp [intOf]; omega
      · have h' : (s[k].toNat : Int) < 65 ∨ 90 < (s[k].toNat : Int) := by omega
        have HS := Lib.hid (small_no s[k] h')
        clear h
        rcases h' with h' | h'
        all_goals
          go_wp2_with (first
            | (go_at_call 32; refine (In_no _ _ _ _ ?_).mono ?_; omega; rintro e w' ⟨rfl, rfl⟩)
            | (refine wpList_append_sl el_u8 rfl _ _ rfl rfl (HO.out.alloc _) rfl (Sl.new _ _ _ 1 rfl) (one_one _ rfl) (by simp) (by unfold maxLen; omega) (by omega) (by have := hb.size; simp; omega) ?_; intro v' w1 hown' hgr))
          go_roundw
          case rel =>
            refine ⟨k + 1, by omega, by go_num, hgr.below (hb.alloc hb.size _) (Nat.le_refl _) (by have := hb.size; simp; omega) (HO.out.alloc _), ?_⟩
            rw [HT.out, List.map_append]
            simpa [bv, HS.out] using hown'
          case measure => simp [intOf]; omega
    · have hks : k = s.size := by omega
      subst hks
      have HW := Lib.hid (show (foldL s).take s.size = foldL s from List.take_of_length_le (by rw [foldL_len]; omega))
      obtain ⟨A, c, rfl, _, _⟩ := own_form HO.out
      go_wp2_with (refine wpList_string_of (l := foldL s) rfl _ 30 9 5 rfl Try.underlying30 Try.underlying5 Try.underlying9 rfl (by rw [← HW.out]; exact Sl.of_own HO.out) ?_)
      go_ret
      exact ⟨rfl, hb⟩

theorem Fold_big (s : ByteArray) (w : World) (hm : s.size ≤ maxLen) (h : 2000 < s.size) :
    Calls Try.prog 14 #[.string s] w fun e w' => e = .returned (.tuple #[.string ByteArray.empty, .int .i64 1]) ∧ w = w' := by
  unfold maxLen at hm
  go_enter Try.func14, Try.ntmps14
  go_wp2
  go_ret2
  exact ⟨rfl, rfl⟩
theorem Fold_ok (s : ByteArray) (w : World) (h : s.size ≤ 2000) :
    Calls Try.prog 14 #[.string s] w fun e w' => e = .returned (.tuple #[.string (mk (foldL s)), .int .i64 0]) ∧ Below w.heap.size w w' := by
  go_enter Try.func14, Try.ntmps14
  go_wp2_with (go_at_call 33; refine (fold_any _ _ (by omega)).mono ?_; rintro e w1 ⟨rfl, hb⟩)
  go_ret2
  exact ⟨rfl, hb⟩
theorem FoldOf_big (s : ByteArray) (w : World) (hm : s.size ≤ maxLen) (h : 2000 < s.size) :
    Calls Try.prog 15 #[.string s] w fun e w' => e = .returned (.tuple #[.string ByteArray.empty, .int .i64 1]) ∧ w = w' := by
  unfold maxLen at hm
  go_enter Try.func15, Try.ntmps15
  go_wp2
  go_ret2
  exact ⟨rfl, rfl⟩
theorem FoldOf_ok (s : ByteArray) (w : World) (h : s.size ≤ 2000) :
    Calls Try.prog 15 #[.string s] w fun e w' => e = .returned (.tuple #[.string (mk (foldL s)), .int .i64 0]) ∧ Below w.heap.size w w' := by
  go_enter Try.func15, Try.ntmps15
  go_wp2_with (go_at_call 34; refine (lower_any _ _ (by omega)).mono ?_; rintro e w1 ⟨rfl, hb⟩)
  go_ret2
  exact ⟨rfl, hb⟩

theorem globFolds_run {H : Type} {enc : TypeId × Value → H} (W : World) (base : Nat) (v0 : Value) (d0 : DataW H) (p0 : List MemPlace)
    (k0 : Value.okWide Try.prog W .any base 9 v0) (h0 : DataW.Trod enc Try.prog W 0 (fun _ => true) true 9 v0 d0 p0) :
    Calls Try.prog 5 #[v0] W fun e W' => e = .returned (.bool true) ∧ Below W.heap.size W W' := by
  obtain ⟨s, rfl, rfl, rfl, hs⟩ := open_string Try.underlying9 k0 h0
  clear k0 h0
  by_cases h : s.size ≤ 2000
  · go_enter Try.func5, Try.ntmps5
    go_wp2_with (first
      | (go_at_call 14; refine (Fold_ok _ _ h).mono ?_; rintro e w1 ⟨rfl, hb1⟩)
      | (go_at_call 15; refine (FoldOf_ok _ _ h).mono ?_; rintro e w2 ⟨rfl, hb2⟩))
    go_ret
    exact ⟨by simp, hb1.trans (hb2.mono hb1.size)⟩
  · go_enter Try.func5, Try.ntmps5
    go_wp2_with (first
      | (go_at_call 14; refine (Fold_big _ _ hs (by omega)).mono ?_; rintro e w1 ⟨rfl, rfl⟩)
      | (go_at_call 15; refine (FoldOf_big _ _ hs (by omega)).mono ?_; rintro e w2 ⟨rfl, rfl⟩))
    go_ret
    exact ⟨by simp, Below.refl _ _⟩
end Go.Proofs.Ytdofgjpgppaghaa

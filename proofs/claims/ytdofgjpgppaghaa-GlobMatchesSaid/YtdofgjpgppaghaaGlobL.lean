/- lower: P1.1. -/
import Derived.Test.YtdofgjpgppaghaaGlobF
namespace Go.Proofs.Ytdofgjpgppaghaa
open Go.RowKit
set_option linter.unusedSimpArgs false
set_option linter.unusedVariables false

theorem el_u8 : Elem Try.prog 30 5 1 1 := ⟨Try.underlying30, by kernel_rfl, by decide⟩
theorem bv_one (l : List UInt8) : ∀ u ∈ l.map bv, u.oneCell' = true := by
  intro u hu
  obtain ⟨b, _, rfl⟩ := List.mem_map.1 hu
  rfl
theorem one_one (v : Value) (h : v.oneCell' = true) : ∀ u ∈ [v], u.oneCell' = true := by
  intro u hu
  rw [List.mem_singleton] at hu
  rw [hu]; exact h

set_option maxRecDepth 20000 in
theorem lower_any (s : ByteArray) (w : World) (hs : s.size ≤ 1000000) :
    Calls Try.prog 34 #[.string s] w fun e w' => e = .returned (.string (mk (foldL s))) ∧ Below w.heap.size w w' := by
  go_enter Try.func34, Try.ntmps34
  go_wp2_with fail
  go_loopw [3, 4, 5] (fun v i x5 wr => ∃ k : Nat, k ≤ s.size ∧ i = .int .i64 k ∧ Below w.heap.size w wr ∧ wr.ownsRow w.heap.size 5 1 v k (((foldL s).take k).map bv))
    (fun _ i _ _ => s.size - (intOf i).toNat)
  case atStart => exact ⟨0, Nat.zero_le _, rfl, Below.refl _ _, World.ownsRow_nil _ _ _ _⟩
  case round =>
    obtain ⟨k, hk, rfl, hb, hown⟩ := hrel
    have HO := Lib.hid hown
    clear hown
    by_cases hlt : k < s.size
    · have hu : (s[k].toNat : Int) < 256 := by have := s[k].toNat_lt; omega
      have HT := Lib.hid (show (foldL s).take (k + 1) = (foldL s).take k ++ [small s[k]] by
        rw [List.take_add_one, foldL_get s k hlt]; rfl)
      by_cases h : 65 ≤ (s[k].toNat : Int) ∧ (s[k].toNat : Int) ≤ 90
      · obtain ⟨h1, h2⟩ := h
        have HS := Lib.hid (small_yes s[k] h1 h2)
        go_wp2_with (first
          | (go_at_call 32; refine (In_yes _ _ _ _ h1 h2).mono ?_; rintro e w' ⟨rfl, rfl⟩)
          | (refine wpList_append_sl el_u8 rfl _ _ rfl rfl (HO.out.alloc _) rfl (Sl.new _ _ _ 1 rfl) (one_one _ rfl) (by simp) (by unfold maxLen; omega) (by omega) (by have := hb.size; simp; omega) ?_; intro A1 c1 w1 hown' hgr hb1))
        go_roundw
        case rel =>
          refine ⟨k + 1, by omega, by go_num, (hb.alloc hb.size _).trans hb1, ?_⟩
          rw [HT.out, List.map_append]
          simpa [bv, HS.out] using hown'
        case measure => simp [intOf]; omega
      · have h' : (s[k].toNat : Int) < 65 ∨ 90 < (s[k].toNat : Int) := by omega
        have HS := Lib.hid (small_no s[k] h')
        clear h
        rcases h' with h' | h'
        all_goals
          go_wp2_with (first
            | (go_at_call 32; refine (In_no _ _ _ _ ?_).mono ?_; omega; rintro e w' ⟨rfl, rfl⟩)
            | (refine wpList_append_sl el_u8 rfl _ _ rfl rfl (HO.out.alloc _) rfl (Sl.new _ _ _ 1 rfl) (one_one _ rfl) (by simp) (by unfold maxLen; omega) (by omega) (by have := hb.size; simp; omega) ?_; intro A1 c1 w1 hown' hgr hb1))
          go_roundw
          case rel =>
            refine ⟨k + 1, by omega, by go_num, (hb.alloc hb.size _).trans hb1, ?_⟩
            rw [HT.out, List.map_append]
            simpa [bv, HS.out] using hown'
          case measure => simp [intOf]; omega
    · have hks : k = s.size := by omega
      subst hks
      have HW := Lib.hid (show (foldL s).take s.size = foldL s from List.take_of_length_le (by rw [foldL_len]; omega))
      obtain ⟨A, c, rfl, _, _⟩ := own_form HO.out
      go_wp2_with (refine wpList_string_of (l := foldL s) rfl _ 30 9 5 rfl Try.underlying30 Try.underlying5 Try.underlying9 rfl (by rw [← HW.out]; exact Sl.of_own HO.out) ?_)
      go_ret
      exact ⟨rfl, hb⟩

end Go.Proofs.Ytdofgjpgppaghaa

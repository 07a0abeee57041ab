/- The walk of postroomlaw.RuleNames. -/
import Derived.Test.YtdofgjpgppaghaaRule
import Derived.Test.YtdofgjpgppaghaaRow
namespace Go.Proofs.Ytdofgjpgppaghaa
open Go.RowKit Go.ChangeShapes Go.WideShapes Go.ChangeAt
open Go.ChangeMaps (open_string)
set_option linter.unusedSimpArgs false
set_option linter.unusedVariables false

theorem BoxName_any (s : ByteArray) (w : World) (hs : s.size ≤ maxLen) :
    Calls Try.prog 13 #[.string s] w fun e w' => e = .returned (.int .i64 (nameFault s)) ∧ w = w' := by
  unfold maxLen at hs
  by_cases h0 : s.size < 1 ∨ 12 < s.size
  · have hf : Hid (nameFault s = 1) := Lib.hid (if_pos h0)
    rcases h0 with h0 | h0
    all_goals
      go_enter Try.func13, Try.ntmps13
      go_wp2_with (go_at_call 32; first | (refine (In_yes _ _ _ _ ?_ ?_).mono ?_; omega; omega; rintro e w' ⟨rfl, rfl⟩) | (refine (In_no _ _ _ _ ?_).mono ?_; omega; rintro e w' ⟨rfl, rfl⟩))
      go_ret
      exact ⟨ret_int hf.out.symm, rfl⟩
  · have h1 : 1 ≤ s.size := by omega
    have h2 : s.size ≤ 12 := by omega
    have hf : Hid (nameFault s = if (bs s).all okByte then 0 else 3) := Lib.hid (if_neg h0)
    clear h0
    go_enter Try.func13, Try.ntmps13
    go_wp2_with (go_at_call 32; first | (refine (In_yes _ _ _ _ ?_ ?_).mono ?_; omega; omega; rintro e w' ⟨rfl, rfl⟩) | (refine (In_no _ _ _ _ ?_).mono ?_; omega; rintro e w' ⟨rfl, rfl⟩))
    go_loop [3] (fun i => ∃ k : Nat, k ≤ s.size ∧ i = .int .i64 k ∧ ∀ (j : Nat) (hj : j < s.size), j < k → okByte s[j] = true) (fun i => s.size - (intOf i).toNat)
    case atStart => exact ⟨0, Nat.zero_le _, rfl, fun _ _ h => absurd h (by omega)⟩
    case round =>
      obtain ⟨k, hk, rfl, hg⟩ := hrel
      have HG := Lib.hid hg
      clear hg
      by_cases hlt : k < s.size
      · by_cases hb : okByte s[k] = true
        · have hb1 : 33 ≤ (s[k].toNat : Int) := by simp [okByte] at hb; omega
          have hb2 : (s[k].toNat : Int) ≤ 126 := by simp [okByte] at hb; omega
          go_wp2_with (go_at_call 32; first | (refine (In_yes _ _ _ _ ?_ ?_).mono ?_; omega; omega; rintro e w' ⟨rfl, rfl⟩) | (refine (In_no _ _ _ _ ?_).mono ?_; omega; rintro e w' ⟨rfl, rfl⟩))
          go_round
          case rel => exact ⟨k + 1, by omega, by go_num, fun j hj h => if e : j = k then by subst e; exact hb else HG.out j hj (by omega)⟩
          case measure => simp [intOf]; omega
        · have hb' : okByte s[k] = false := by simpa using hb
          have hb1 : (s[k].toNat : Int) < 33 ∨ 126 < (s[k].toNat : Int) := by simp [okByte] at hb; omega
          have HB := Lib.hid hb'
          have hu : (s[k].toNat : Int) < 256 := by have := s[k].toNat_lt; omega
          clear hb hb'
          rcases hb1 with hb1 | hb1
          all_goals
            go_wp2_with (go_at_call 32; first | (refine (In_yes _ _ _ _ ?_ ?_).mono ?_; omega; omega; rintro e w' ⟨rfl, rfl⟩) | (refine (In_no _ _ _ _ ?_).mono ?_; omega; rintro e w' ⟨rfl, rfl⟩))
            go_ret
            exact ⟨ret_int (by rw [hf.out, if_neg (by rw [not_all_of hlt HB.out]; decide)]), rfl⟩
      · go_wp2_with (go_at_call 32; first | (refine (In_yes _ _ _ _ ?_ ?_).mono ?_; omega; omega; rintro e w' ⟨rfl, rfl⟩) | (refine (In_no _ _ _ _ ?_).mono ?_; omega; rintro e w' ⟨rfl, rfl⟩))
        go_ret
        exact ⟨ret_int (by rw [hf.out, if_pos (all_of fun j hj => HG.out j hj (by omega))]), rfl⟩

theorem ruleNames_run {H : Type} {enc : TypeId × Value → H} (W : World) (base : Nat) (v0 : Value) (d0 : DataW H) (p0 : List MemPlace)
    (k0 : Value.okWide Try.prog W .any base 9 v0) (h0 : DataW.Trod enc Try.prog W 0 (fun _ => true) true 9 v0 d0 p0) :
    Calls Try.prog 4 #[v0] W fun e W' => e = .returned (.bool true) ∧ Below W.heap.size W W' := by
  obtain ⟨s, rfl, rfl, rfl, hs⟩ := open_string Try.underlying9 k0 h0
  clear k0 h0
  go_enter Try.func4, Try.ntmps4
  go_wp2_with (first
    | (go_at_call 12; refine (Name_any _ _ hs).mono ?_; rintro e w' ⟨rfl, rfl⟩)
    | (go_at_call 13; refine (BoxName_any _ _ hs).mono ?_; rintro e w' ⟨rfl, rfl⟩))
  go_ret
  exact ⟨by simp, Below.refl _ _⟩
end Go.Proofs.Ytdofgjpgppaghaa

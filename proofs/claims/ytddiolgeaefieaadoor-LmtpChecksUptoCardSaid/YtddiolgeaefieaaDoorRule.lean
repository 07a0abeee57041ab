/- rule.Name and BoxName: P6.2. -/
import Derived.Test.YtddiolgeaefieaaDoorBase
namespace Go.Proofs.YtddiolgeaefieaaDoor
open Go.RowKit
set_option linter.unusedSimpArgs false
set_option linter.unusedVariables false

def okByte (b : UInt8) : Bool := 33 ≤ b.toNat && b.toNat ≤ 126
def nameFault (s : ByteArray) : Int := if s.size < 1 ∨ 12 < s.size then 1 else if (bs s).all okByte then 0 else 3

theorem all_of {s : ByteArray} {p : UInt8 → Bool} (h : ∀ (j : Nat) (hj : j < s.size), p s[j] = true) : (bs s).all p = true := by
  rw [List.all_eq_true]
  intro b hb
  obtain ⟨j, hj, rfl⟩ := List.mem_iff_getElem.1 hb
  exact h j (by simpa [bs_len] using hj)
theorem not_all_of {s : ByteArray} {p : UInt8 → Bool} {j : Nat} (hj : j < s.size) (h : p s[j] = false) : (bs s).all p = false := by
  rw [List.all_eq_false]
  exact ⟨s[j], List.mem_of_getElem? (bs_get s j hj), by simp [h]⟩

theorem In_any (n lo hi : Int) (w : World) :
    Calls Tryd.prog 48 #[.int .i64 n, .int .i64 lo, .int .i64 hi] w fun e w' => e = .returned (.bool (decide (lo ≤ n) && decide (n ≤ hi))) ∧ w = w' := by
  go_enter Tryd.func48, Tryd.ntmps48
  go_wp2
  all_goals go_ret
  all_goals refine ⟨ret_bool ?_, rfl⟩
  all_goals simp <;> omega

theorem In_yes (n lo hi : Int) (w : World) (h1 : lo ≤ n) (h2 : n ≤ hi) :
    Calls Tryd.prog 48 #[.int .i64 n, .int .i64 lo, .int .i64 hi] w fun e w' => e = .returned (.bool true) ∧ w = w' :=
  (In_any n lo hi w).mono fun _ _ ⟨h, k⟩ => ⟨by rw [h]; simp [h1, h2], k⟩
theorem In_no (n lo hi : Int) (w : World) (h : n < lo ∨ hi < n) :
    Calls Tryd.prog 48 #[.int .i64 n, .int .i64 lo, .int .i64 hi] w fun e w' => e = .returned (.bool false) ∧ w = w' :=
  (In_any n lo hi w).mono fun _ _ ⟨h', k⟩ => ⟨by rw [h']; congr 1; congr 1; simp; omega, k⟩

theorem Name_any (s : ByteArray) (w : World) (hs : s.size ≤ maxLen) :
    Calls Tryd.prog 58 #[.string s] w fun e w' => e = .returned (.int .i64 (nameFault s)) ∧ w = w' := by
  unfold maxLen at hs
  by_cases h0 : s.size < 1 ∨ 12 < s.size
  · have hf : Hid (nameFault s = 1) := Lib.hid (if_pos h0)
    rcases h0 with h0 | h0
    all_goals
      go_enter Tryd.func58, Tryd.ntmps58
      go_wp2
      go_ret
      exact ⟨ret_int hf.out.symm, rfl⟩
  · have h1 : 1 ≤ s.size := by omega
    have h2 : s.size ≤ 12 := by omega
    have hf : Hid (nameFault s = if (bs s).all okByte then 0 else 3) := Lib.hid (if_neg h0)
    clear h0
    go_enter Tryd.func58, Tryd.ntmps58
    go_wp2
    go_loop [14] (fun i => ∃ k : Nat, k ≤ s.size ∧ i = .int .i64 k ∧ ∀ (j : Nat) (hj : j < s.size), j < k → okByte s[j] = true) (fun i => s.size - (intOf i).toNat)
    case atStart => exact ⟨0, Nat.zero_le _, rfl, fun _ _ h => absurd h (by omega)⟩
    case round =>
      obtain ⟨k, hk, rfl, hg⟩ := hrel
      have HG := Lib.hid hg
      clear hg
      by_cases hlt : k < s.size
      · by_cases hb : okByte s[k] = true
        · have hb1 : 33 ≤ (s[k].toNat : Int) := by simp [okByte] at hb; omega
          have hb2 : (s[k].toNat : Int) ≤ 126 := by simp [okByte] at hb; omega
          go_wp2
          go_round
          case rel => exact ⟨k + 1, by omega, by go_num, fun j hj h => if e : j = k then by subst e; exact hb else HG.out j hj (by omega)⟩
          case measure => simp [intOf]; omega
        · have hb' : okByte s[k] = false := by simpa using hb
          have hb1 : (s[k].toNat : Int) < 33 ∨ 126 < (s[k].toNat : Int) := by simp [okByte] at hb; omega
          have HB := Lib.hid hb'
          clear hb hb'
          rcases hb1 with hb1 | hb1
          all_goals
            go_wp2
            go_ret
            exact ⟨ret_int (by rw [hf.out, if_neg (by rw [not_all_of hlt HB.out]; decide)]), rfl⟩
      · go_wp2
        go_ret
        exact ⟨ret_int (by rw [hf.out, if_pos (all_of fun j hj => HG.out j hj (by omega))]), rfl⟩
end Go.Proofs.YtddiolgeaefieaaDoor

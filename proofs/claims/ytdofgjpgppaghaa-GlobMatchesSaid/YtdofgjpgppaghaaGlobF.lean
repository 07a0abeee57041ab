/- Folding: glob.fold and lower. -/
import Derived.Test.YtdofgjpgppaghaaStr
import Derived.Test.YtdofgjpgppaghaaRule
namespace Go.Proofs.Ytdofgjpgppaghaa
open Go.RowKit
set_option linter.unusedSimpArgs false
set_option linter.unusedVariables false

/-- P1.1 -/
def small (c : UInt8) : UInt8 := if 65 ≤ c.toNat ∧ c.toNat ≤ 90 then c + 32 else c
def foldL (s : ByteArray) : List UInt8 := (bs s).map small
theorem foldL_len (s : ByteArray) : (foldL s).length = s.size := by simp [foldL, bs_len]
theorem foldL_get (s : ByteArray) (j : Nat) (hj : j < s.size) : (foldL s)[j]? = some (small s[j]) := by simp [foldL, bs_get s j hj]

theorem small_yes (c : UInt8) (h1 : 65 ≤ (c.toNat : Int)) (h2 : (c.toNat : Int) ≤ 90) : ((small c).toNat : Int) = (c.toNat : Int) + 32 := by
  have : small c = c + 32 := if_pos ⟨by omega, by omega⟩
  rw [this, UInt8.toNat_add]
  have : (32 : UInt8).toNat = 32 := rfl
  rw [this]; omega
theorem small_no (c : UInt8) (h : (c.toNat : Int) < 65 ∨ 90 < (c.toNat : Int)) : small c = c := if_neg (by omega)

set_option maxRecDepth 20000 in
theorem small_any (c : UInt8) (w : World) :
    Calls Try.prog 52 #[.int .u8 c.toNat] w fun e w' => e = .returned (bv (small c)) ∧ w = w' := by
  have hu : (c.toNat : Int) < 256 := by have := c.toNat_lt; omega
  by_cases h : 65 ≤ (c.toNat : Int) ∧ (c.toNat : Int) ≤ 90
  · obtain ⟨h1, h2⟩ := h
    have HS := Lib.hid (small_yes c h1 h2)
    go_enter Try.func52, Try.ntmps52
    go_wp2
    go_ret
    exact ⟨by unfold bv; rw [HS.out]; go_num, rfl⟩
  · have HS := Lib.hid (small_no c (by omega))
    have h' : (c.toNat : Int) < 65 ∨ 90 < (c.toNat : Int) := by omega
    clear h
    rcases h' with h' | h'
    all_goals
      go_enter Try.func52, Try.ntmps52
      go_wp2
      go_ret
      exact ⟨by rw [HS.out]; rfl, rfl⟩

theorem fold_any (s : ByteArray) (w : World) (hs : s.size ≤ 1000000) :
    Calls Try.prog 33 #[.string s] w fun e w' => e = .returned (.string (mk (foldL s))) ∧ Below w.heap.size w w' := by
  go_enter Try.func33, Try.ntmps33
  go_wp2_with (refine wpList_bytes_of rfl _ 9 30 5 rfl Try.underlying9 Try.underlying30 Try.underlying5 rfl ?_; intro cap w1 hf)
  have HF := Lib.hid hf
  clear hf
  go_loopw [4, 5, 10] (fun x4 x5 i wr => ∃ k : Nat, k ≤ s.size ∧ i = .int .i64 k ∧ Below w.heap.size w wr ∧
      (∀ (j : Nat) (hj : j < s.size), wr.cell? ⟨w.heap.size, j, none⟩ = some (bv (if j < k then small s[j] else s[j]))) ∧ ∀ j : Nat, j < s.size → wr.frozen? ⟨w.heap.size, j, none⟩ = false)
    (fun _ _ i _ => s.size - (intOf i).toNat)
  case atStart => exact ⟨0, Nat.zero_le _, rfl, HF.out.below, fun j hj => by simpa using HF.out.cell j hj, HF.out.free⟩
  case round =>
    obtain ⟨k, hk, rfl, hb, hc, hz⟩ := hrel
    by_cases hlt : k < s.size
    · have hck : wr.cell? ⟨w.heap.size, k, none⟩ = some (.int .u8 s[k].toNat) := by simpa [bv] using hc k hlt
      have hzk := hz k hlt
      have HC := Lib.hid hc
      have HZ := Lib.hid hz
      clear hc hz
      go_wp2_with (go_at_call 52; refine (small_any _ _).mono ?_; rintro e w' ⟨rfl, rfl⟩; unfold bv)
      go_roundw
      case rel =>
        refine ⟨k + 1, by omega, by go_num, hb.setCell (Nat.le_refl _) _, fun j hj => ?_, fun j hj => by simpa using HZ.out j hj⟩
        by_cases e : j = k
        · subst e
          rw [World.cell?_setCell_same _ _ _ hck, if_pos (by omega)]; rfl
        · rw [World.cell?_setCell_other _ _ _ _ (by intro h; injection h; omega), HC.out j hj]
          by_cases hjk : j < k
          · rw [if_pos hjk, if_pos (by omega)]
          · rw [if_neg hjk, if_neg (by omega)]
      case measure => simp [intOf]; omega
    · have hks : k = s.size := by omega
      subst hks
      have HR : Sl wr (fun b => b = w.heap.size) 1 (some ⟨w.heap.size, 0, none⟩) s.size ((foldL s).map bv) :=
        Sl.of_cells rfl (by simp [foldL_len]) (fun j u hu => by
          rw [List.getElem?_map, Option.map_eq_some_iff] at hu
          obtain ⟨x, hx, rfl⟩ := hu
          have hj : j < s.size := by rw [← foldL_len]; exact (List.getElem?_eq_some_iff.1 hx).1
          rw [foldL_get s j hj] at hx
          injection hx with hx
          subst hx
          rw [Nat.zero_add, hc j hj, if_pos hj])
      clear hc hz
      have HR' := Lib.hid HR
      clear HR
      go_wp2_with (refine wpList_string_of rfl _ 30 9 5 rfl Try.underlying30 Try.underlying5 Try.underlying9 rfl HR'.out ?_)
      go_ret
      exact ⟨rfl, hb⟩
end Go.Proofs.Ytdofgjpgppaghaa

/- The pieces of a pattern, one by one: the iterator. -/
import Derived.Test.YtdofgjpgppaghaaGm1
import Derived.RangeFuncNested
import Derived.RangeFuncBound
import Derived.RangeFuncCalls
import Derived.RangeFuncLeaves
import Derived.RangeFuncBox
import Derived.Shelf.Abstract
import Derived.Shelf.RegionOpen
import Derived.WalkKit
import Derived.OwnWalkIn
import Derived.TacticsInMore
import Derived.LoopNIn
import Derived.LoopIn
namespace Go.Proofs.Ytdofgjpgppaghaa
open Go.RowKit
set_option linter.unusedSimpArgs false
set_option linter.unusedVariables false
open Go.Shelf
attribute [local go_sem] Oper.semAt_some
def pcEnc (x : Pc) : Array Value := #[.agg #[.int .u8 x.c.toNat, .bool x.one, .bool x.many]]
/-- block b lies on as it lay -/
def KeepB (b : Nat) (W W' : World) : Prop := W'.heap[b]? = W.heap[b]? ∧ W.heap.size ≤ W'.heap.size
theorem KeepB.refl (b : Nat) (W : World) : KeepB b W W := ⟨rfl, Nat.le_refl _⟩
theorem KeepB.trans {b : Nat} {A B C : World} (h : KeepB b A B) (k : KeepB b B C) : KeepB b A C := ⟨k.1.trans h.1, Nat.le_trans h.2 k.2⟩
theorem KeepB.of_below {b B : Nat} {W W' : World} (h : Below B W W') (hb : b < B) : KeepB b W W' := ⟨h.block b hb, h.size⟩
theorem grown_new (w : World) (o : Obj) : w.grownBy (w.alloc o).drew none :=
  have h := World.grownBy_alloc w o none
  ⟨h.os, h.tape, h.output, h.size, h.block⟩
set_option maxRecDepth 100000 in
set_option maxHeartbeats 2000000 in
theorem pieces1_in (n : Nat) (hn : 1 ≤ n) (l Bp : Nat) (p : ByteArray) (hp : p.size ≤ 100) (J Jx : List Pc → World → Prop)
    (hJ : ∀ s A B, J s A → A.grownBy B none → J s B)
    (hY : ∀ pre x W, J pre W → pre.length < p.size → YieldAt Fence.wide (n - 1) Try.prog l (pcEnc x) W fun e W' =>
      (e = .returned (.bool true) ∧ J (pre ++ [x]) W' ∧ KeepB Bp W W') ∨ (e = .returned (.bool false) ∧ Jx (pre ++ [x]) W'))
    (W : World) (hc : W.cell? ⟨Bp, 0, none⟩ = some (.string p)) (h0 : J [] W) :
    CallsIn Fence.wide n Try.prog 61 #[.func (.yield l) #[] #[], .pointer (some ⟨Bp, 0, none⟩)] W fun e W' => (∃ v, e = .returned v) ∧
      ((∃ ys, ys = piecesOf (bs p) ∧ J ys W') ∨ (∃ pre, True ∧ Jx pre W')) := by
  refine callsIn_of_wp Try.func61 rfl trivial ?_ rfl
  simp only [Try.ntmps61, List.size_toArray, List.length_cons, List.length_nil, Nat.reduceAdd, Nat.reduceSub, Array.replicate_succ, Array.replicate_zero, List.push_toArray, List.append_toArray, List.nil_append, List.cons_append]
  have hbp := Lib.hid (bs_len p)
  gi_wp2
  gi_loopw [3] (fun i wr => ∃ (k : Nat) (pre : List Pc), k ≤ p.size ∧ i = .int .i64 k ∧ piecesOf (bs p) = pre ++ piecesOf ((bs p).drop k) ∧ pre.length ≤ k ∧ J pre wr ∧ KeepB Bp W wr)
    (fun i _ => p.size - (intOf i).toNat)
  case atStart => exact ⟨0, [], by omega, rfl, rfl, by simp, h0, KeepB.refl _ _⟩
  case round =>
    obtain ⟨k, pre, hk, rfl, hpl, hlen, hJs, hbw⟩ := hrel
    have HL := Lib.hid hpl
    have HJ := Lib.hid hJs
    have HB := Lib.hid hbw
    have hcx : wr.cell? ⟨Bp, 0, none⟩ = some (.string p) := (World.cell?_of_block (a := ⟨Bp, 0, none⟩) hbw.1).trans hc
    clear hpl hJs hbw
    by_cases hlt : k < p.size
    · have hpk := bs_get p k hlt
      have hdk := Lib.hid (drop_at hpk)
      have k0 : (0 : Int) ≤ k := by omega
      have k1 : (k : Int) < p.size := by omega
      have hne : wr.heap.size ≠ Bp := Nat.ne_of_gt (World.block_lt_of_cell? wr ⟨Bp, 0, none⟩ hcx)
      have hca : ∀ o, (wr.alloc o).cell? ⟨Bp, 0, none⟩ = some (.string p) := fun o => (Below.cell (p := ⟨Bp, 0, none⟩) (Below.alloc (Below.refl wr.heap.size wr) (Nat.le_refl _) o) (by have := World.block_lt_of_cell? wr ⟨Bp, 0, none⟩ hcx; exact this)).trans hcx
      obtain ⟨st, hst⟩ : ∃ q : Bool, ((p[k].toNat : Int) == 42) = q := ⟨_, rfl⟩
      obtain ⟨an, han⟩ : ∃ q : Bool, ((p[k].toNat : Int) == 63) = q := ⟨_, rfl⟩
      have hpx := Lib.hid (show plainPc p[k] = ⟨p[k], an, st⟩ by
        unfold plainPc
        rw [← hst, ← han]
        congr 1 <;> (rw [Bool.eq_iff_iff]; simp; omega))
      have hgrow : ∀ o, J pre (wr.alloc o).drew := fun o => hJ pre wr _ HJ.out (grown_new wr o)
      have HG := Lib.hid hgrow
      have HBn : ∀ o, KeepB Bp W (wr.alloc o).drew := fun o => HB.out.trans (KeepB.of_below (Below.alloc (Below.refl wr.heap.size wr) (Nat.le_refl _) o).drew (by have := World.block_lt_of_cell? wr ⟨Bp, 0, none⟩ hcx; exact this))
      have HBN := Lib.hid HBn
      clear hgrow HBn hpk
      by_cases hesc : p[k].toNat = 92 ∧ k + 1 < p.size
      · obtain ⟨e1, e2⟩ := hesc
        have hl2 : Hid (piecesOf (bs p) = (pre ++ [⟨p[k + 1], false, false⟩]) ++ piecesOf ((bs p).drop (k + 2))) := Lib.hid (by
          rw [HL.out, hdk.out, drop_at (bs_get p (k + 1) e2), pieces_esc _ _ _ e1, List.append_assoc]; rfl)
        have t1 : ((p[k].toNat : Int) == 92) = true := by rw [e1]; rfl
        have t2 : (k : Int) + 1 < p.size := by omega
        have e1' := Lib.hid e1
        clear e1
        gi_wp2
        gi_region
        obtain ⟨fn, tmps, assign, body, hy, hR⟩ := hY pre ⟨p[k + 1], false, false⟩ ((wr.alloc (.cells #[.int .u8 p[k + 1].toNat, .bool false, .bool false] 86)).drew) (HG.out _) (by omega)
        dsimp only [pcEnc] at hy
        gi_wp2
        refine hR.mono ?_
        rintro e W3 (⟨rfl, hJ3, hk3⟩ | ⟨rfl, hJx3⟩)
        · gi_wp2
          go_roundw
          case rel => exact ⟨k + 2, _, by omega, by go_num, hl2.out, by simp; omega, hJ3, (HBN.out _).trans hk3⟩
          case measure => simp [intOf]; omega
        · gi_wp2
          refine bodyPost_ret (results_none rfl _ _ _) rfl ?_
          exact ⟨⟨_, rfl⟩, .inr ⟨_, trivial, hJx3⟩⟩
      · have hl2 : Hid (piecesOf (bs p) = (pre ++ [⟨p[k], an, st⟩]) ++ piecesOf ((bs p).drop (k + 1))) := Lib.hid (by
          rw [HL.out, hdk.out, pieces_plain _ _ (by
            by_cases e : p[k].toNat = 92
            · right
              rw [List.drop_eq_nil_of_le (by rw [hbp.out]; omega)]
            · exact .inl e), hpx.out, List.append_assoc]; rfl)
        have hne2 : ((p[k].toNat : Int) == 92) = false ∨ (((p[k].toNat : Int) == 92) = true ∧ ¬ ((k : Int) + 1 < p.size)) := by
          by_cases e : p[k].toNat = 92
          · right; exact ⟨by rw [e]; rfl, by omega⟩
          · left; exact beq_false_of_ne (by omega)
        clear hesc
        rcases hne2 with t1 | ⟨t1, t2⟩
        all_goals
          gi_wp2
          gi_region
          obtain ⟨fn, tmps, assign, body, hy, hR⟩ := hY pre ⟨p[k], an, st⟩ ((wr.alloc (.cells #[.int .u8 p[k].toNat, .bool an, .bool st] 86)).drew) (HG.out _) (by omega)
          dsimp only [pcEnc] at hy
          gi_wp2
          refine hR.mono ?_
          rintro e W3 (⟨rfl, hJ3, hk3⟩ | ⟨rfl, hJx3⟩)
          · gi_wp2
            go_roundw
            case rel => exact ⟨k + 1, _, by omega, by go_num, hl2.out, by simp; omega, hJ3, (HBN.out _).trans hk3⟩
            case measure => simp [intOf]; omega
          · gi_wp2
            refine bodyPost_ret (results_none rfl _ _ _) rfl ?_
            exact ⟨⟨_, rfl⟩, .inr ⟨_, trivial, hJx3⟩⟩
    · obtain rfl : k = p.size := by omega
      have hl2 : Hid (pre = piecesOf (bs p)) := Lib.hid (by
        have := HL.out
        rw [List.drop_eq_nil_of_le (by rw [hbp.out]; omega), pieces_nil, List.append_nil] at this
        exact this.symm)
      gi_wp2
      go_end0
      exact ⟨⟨_, rfl⟩, .inl ⟨pre, hl2.out, HJ.out⟩⟩
end Go.Proofs.Ytdofgjpgppaghaa

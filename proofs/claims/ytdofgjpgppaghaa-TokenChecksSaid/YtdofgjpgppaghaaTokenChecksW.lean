/- The law TokenChecks: P4.6. -/
import Derived.Test.YtdofgjpgppaghaaTok5
import Derived.Test.YtdofgjpgppaghaaMem
import Derived.Test.YtdofgjpgppaghaaRow
namespace Go.Proofs.Ytdofgjpgppaghaa
open Go.RowKit Go.ChangeShapes Go.WideShapes Go.ChangeAt
set_option linter.unusedSimpArgs false
set_option linter.unusedVariables false
open Go.ChangeShapes Go.WideShapes Go.ChangeAt
set_option maxRecDepth 20000 in
theorem tokenChecks_walk (k : Int) (t : ByteArray) (n : Int) (w : World) (hd : t.size ≤ maxLen) :
    Calls Try.prog 10 #[.agg #[.int .i64 k, .string t, .int .i64 n]] w fun e w' => e = .returned (.bool true) ∧ Below w.heap.size w w' := by
  have HC := Lib.hid (fun w => tokenCheck_any k t n w hd)
  have HA := Lib.hid (fun w => tokenFault_any k t n w hd)
  unfold FaultIs at HC HA
  generalize faultOf k t n = f at HC HA
  go_enter Try.func10, Try.ntmps10
  go_wp2_with fail
  refine Calls.mono (HC.out _) ?_
  rintro e w1 ⟨rfl, hb1⟩
  obtain ⟨k1a, k1b, k1c⟩ := own_at hb1 (b := w.heap.size) (by first | omega | (simp; done) | (simp; omega)); have z2 := hb1.size; (try simp only [World.size_alloc, World.size_setCell] at z2)
  go_wp2_with fail
  refine Calls.mono (HA.out _) ?_
  rintro e w2 ⟨rfl, hb2⟩
  go_wp2_with fail
  go_ret
  refine ⟨by simp, ?_⟩
  (repeat (first | with_reducible exact hb2 | with_reducible refine Below.trans ?_ (Below.mono hb2 ?_) | with_reducible exact hb1 | with_reducible refine Below.trans ?_ (Below.mono hb1 ?_) | with_reducible exact Below.refl _ _ | with_reducible refine Below.setCell ?_ ?_ _ | with_reducible refine Below.alloc ?_ ?_ _ | with_reducible refine Below.drew ?_ | with_reducible refine below_drewN ?_ _))
  all_goals (first | omega | (simp; done) | (simp; omega))

theorem trod_tok {H : Type} {enc : TypeId × Value → H} {W : World} {fuel : Nat} {cs : List Value} {y : DataW H × List MemPlace} (h : DataW.trod enc Try.prog W 0 (fun _ => true) true fuel 55 cs = some y) :
    ∃ k t n, cs = [.int .i64 k, .string t, .int .i64 n] ∧ t.size ≤ maxLen := by
  obtain ⟨xs, n, _, hx, hlen, hxl, hf⟩ := DataW.trod_struct Try.underlying55 h
  rw [show Try.prog.cellsOf 55 = 3 by kernel_rfl] at hlen
  have hc3 : Try.prog.cellsOf 3 = 1 := by kernel_rfl
  have hc9 : Try.prog.cellsOf 9 = 1 := by kernel_rfl
  match cs, hlen, xs, hxl with
  | [a0, a1, a2], _, [x0, x1, x2], _ =>
    have f0 := hf 0 _ rfl
    have f1 := hf 1 _ rfl
    have f2 := hf 2 _ rfl
    simp [hc3, hc9] at f0 f1 f2
    obtain ⟨k, e0, _, _⟩ := DataW.trod_int Try.underlying3 f0
    obtain ⟨t, e1, _, ht⟩ := DataW.trod_string Try.underlying9 f1
    obtain ⟨u, e2, _, _⟩ := DataW.trod_int Try.underlying3 f2
    simp only [List.cons.injEq, and_true] at e0 e1 e2
    subst e0 e1 e2
    exact ⟨k, t, u, rfl, ht⟩

theorem tokenChecks_run {H : Type} {enc : TypeId × Value → H} (W : World) (base : Nat) (v0 : Value) (d0 : DataW H) (p0 : List MemPlace)
    (k0 : Value.okWide Try.prog W .any base 55 v0) (h0 : DataW.Trod enc Try.prog W 0 (fun _ => true) true 55 v0 d0 p0) :
    Calls Try.prog 10 #[v0] W fun e W' => e = .returned (.bool true) ∧ Below W.heap.size W W' := by
  obtain ⟨cs, rfl, hsz⟩ := okWide_struct Try.underlying55 k0
  obtain ⟨fuel, h⟩ := h0
  obtain ⟨k, t, n, e, ht⟩ := trod_tok h
  have e : Value.agg cs = .agg #[.int .i64 k, .string t, .int .i64 n] := by
    have : cs.toList = [.int .i64 k, .string t, .int .i64 n] := by simpa [Value.cells] using e
    rw [← Array.toArray_toList (xs := cs), this]
  rw [e]
  exact tokenChecks_walk k t n W ht
end Go.Proofs.Ytdofgjpgppaghaa

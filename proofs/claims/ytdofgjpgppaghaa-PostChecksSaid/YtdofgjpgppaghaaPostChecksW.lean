/- The law PostChecks: P13.1. -/
import Derived.Test.YtdofgjpgppaghaaActs
import Derived.Test.YtdofgjpgppaghaaMem
import Derived.Test.YtdofgjpgppaghaaRow
namespace Go.Proofs.Ytdofgjpgppaghaa
open Go.RowKit Go.ChangeShapes Go.WideShapes Go.ChangeAt
set_option linter.unusedSimpArgs false
set_option linter.unusedVariables false
open Go.ChangeShapes Go.WideShapes Go.ChangeAt
set_option maxRecDepth 20000 in
theorem postChecks_walk (a : Act') (w : World) (hd : a.data.size ≤ maxLen) :
    Calls Try.prog 9 #[a.val] w fun e w' => e = .returned (.bool true) ∧ Below w.heap.size w w' := by
  have HC := Lib.hid (fun w => Ck_any a w hd)
  have HA := Lib.hid (fun w => Af_any a w hd)
  unfold Act'.val at *
  generalize actFault a = f at HC HA
  obtain ⟨kind, conn, user, keep, data, ⟨ek, eb, eu, ef, et, ex⟩⟩ := a
  dsimp only at *
  go_enter Try.func9, Try.ntmps9
  go_wp2_with fail
  refine Calls.mono (HC.out _) ?_
  rintro e w1 ⟨rfl, hb1⟩
  obtain ⟨k1a, k1b, k1c⟩ := own_at hb1 (b := w.heap.size) (by first | omega | (simp; done) | (simp; omega)); have z2 := hb1.size; (try simp only [World.size_alloc, World.size_setCell] at z2)
  go_wp2_with fail
  refine Calls.mono (HA.out _) ?_
  rintro e w2 ⟨rfl, hb2⟩
  go_wp2_with fail
  go_ret
  refine ⟨by simp, ?_⟩
  (repeat (first | with_reducible exact hb2 | with_reducible refine Below.trans ?_ (Below.mono hb2 ?_) | with_reducible exact hb1 | with_reducible refine Below.trans ?_ (Below.mono hb1 ?_) | with_reducible exact Below.refl _ _ | with_reducible refine Below.setCell ?_ ?_ _ | with_reducible refine Below.alloc ?_ ?_ _ | with_reducible refine Below.drew ?_ | with_reducible refine below_drewN ?_ _))
  all_goals (first | omega | (simp; done) | (simp; omega))

theorem trod_ent {H : Type} {enc : TypeId × Value → H} {W : World} {fuel : Nat} {cs : List Value} {y : DataW H × List MemPlace} (h : DataW.trod enc Try.prog W 0 (fun _ => true) true fuel 49 cs = some y) :
    ∃ x : Ent, cs = [.int .i64 x.kind, .string x.box, .int .i64 x.uid, .int .i64 x.flags, .string x.to, .string x.text] := by
  obtain ⟨xs, n, _, hx, hlen, hxl, hf⟩ := DataW.trod_struct Try.underlying49 h
  rw [show Try.prog.cellsOf 49 = 6 by kernel_rfl] at hlen
  have hc3 : Try.prog.cellsOf 3 = 1 := by kernel_rfl
  have hc9 : Try.prog.cellsOf 9 = 1 := by kernel_rfl
  match cs, hlen, xs, hxl with
  | [a0, a1, a2, a3, a4, a5], _, [x0, x1, x2, x3, x4, x5], _ =>
    have f0 := hf 0 _ rfl
    have f1 := hf 1 _ rfl
    have f2 := hf 2 _ rfl
    have f3 := hf 3 _ rfl
    have f4 := hf 4 _ rfl
    have f5 := hf 5 _ rfl
    simp [hc3, hc9] at f0 f1 f2 f3 f4 f5
    obtain ⟨k, e0, _, _⟩ := DataW.trod_int Try.underlying3 f0
    obtain ⟨b, e1, _, _⟩ := DataW.trod_string Try.underlying9 f1
    obtain ⟨u, e2, _, _⟩ := DataW.trod_int Try.underlying3 f2
    obtain ⟨f, e3, _, _⟩ := DataW.trod_int Try.underlying3 f3
    obtain ⟨t, e4, _, _⟩ := DataW.trod_string Try.underlying9 f4
    obtain ⟨x, e5, _, _⟩ := DataW.trod_string Try.underlying9 f5
    simp only [List.cons.injEq, and_true] at e0 e1 e2 e3 e4 e5
    subst e0 e1 e2 e3 e4 e5
    exact ⟨⟨k, b, u, f, t, x⟩, rfl⟩

theorem trod_act {H : Type} {enc : TypeId × Value → H} {W : World} {fuel : Nat} {cs : List Value} {y : DataW H × List MemPlace} (h : DataW.trod enc Try.prog W 0 (fun _ => true) true fuel 51 cs = some y) :
    ∃ a : Act', Value.agg cs.toArray = a.val ∧ a.data.size ≤ maxLen := by
  obtain ⟨xs, n, _, hx, hlen, hxl, hf⟩ := DataW.trod_struct Try.underlying51 h
  rw [show Try.prog.cellsOf 51 = 11 by kernel_rfl] at hlen
  have hc3 : Try.prog.cellsOf 3 = 1 := by kernel_rfl
  have hc9 : Try.prog.cellsOf 9 = 1 := by kernel_rfl
  have hc6 : Try.prog.cellsOf 49 = 6 := by kernel_rfl
  match cs, hlen, xs, hxl with
  | [a0, a1, a2, a3, a4, a5, a6, a7, a8, a9, a10], _, [x0, x1, x2, x3, x4, x5], _ =>
    have f0 := hf 0 _ rfl
    have f1 := hf 1 _ rfl
    have f2 := hf 2 _ rfl
    have f3 := hf 3 _ rfl
    have f4 := hf 4 _ rfl
    have f5 := hf 5 _ rfl
    simp [hc3, hc9, hc6] at f0 f1 f2 f3 f4 f5
    obtain ⟨k, e0, _, _⟩ := DataW.trod_int Try.underlying3 f0
    obtain ⟨b, e1, _, _⟩ := DataW.trod_int Try.underlying3 f1
    obtain ⟨u, e2, _, _⟩ := DataW.trod_int Try.underlying3 f2
    obtain ⟨f, e3, _, _⟩ := DataW.trod_int Try.underlying3 f3
    obtain ⟨t, e4, _, ht⟩ := DataW.trod_string Try.underlying9 f4
    obtain ⟨x, e5⟩ := trod_ent f5
    simp only [List.cons.injEq, and_true] at e0 e1 e2 e3 e4 e5
    obtain ⟨q0, q1, q2, q3, q4, q5⟩ := e5
    subst e0 e1 e2 e3 e4 q0 q1 q2 q3 q4 q5
    exact ⟨⟨k, b, u, f, t, x⟩, rfl, ht⟩

theorem postChecks_run {H : Type} {enc : TypeId × Value → H} (W : World) (base : Nat) (v0 : Value) (d0 : DataW H) (p0 : List MemPlace)
    (k0 : Value.okWide Try.prog W .any base 51 v0) (h0 : DataW.Trod enc Try.prog W 0 (fun _ => true) true 51 v0 d0 p0) :
    Calls Try.prog 9 #[v0] W fun e W' => e = .returned (.bool true) ∧ Below W.heap.size W W' := by
  obtain ⟨cs, rfl, hsz⟩ := okWide_struct Try.underlying51 k0
  obtain ⟨fuel, h⟩ := h0
  obtain ⟨a, ha, hd⟩ := trod_act h
  have e : Value.agg cs = a.val := by rw [← ha]; simp [Value.cells]
  rw [e]
  exact postChecks_walk a W hd
end Go.Proofs.Ytdofgjpgppaghaa

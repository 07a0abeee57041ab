/- The law WhoParts: P3.3. -/
import Derived.Test.YtddiolgeaefieaaDoorAdrOpen
import Derived.Test.YtddiolgeaefieaaDoorRow
namespace Go.Proofs.YtddiolgeaefieaaDoor
open Go.RowKit Go.ChangeShapes Go.WideShapes Go.ChangeAt
set_option linter.unusedSimpArgs false
set_option linter.unusedVariables false
open Go.ChangeShapes Go.WideShapes Go.ChangeAt
set_option maxRecDepth 20000 in
theorem whoParts_walk (kind : Int) (a : Adr) (w : World) (hz : a.l.size ≤ 1048576 ∧ a.d.size ≤ 1048576) (h0 : Lib0 w) :
    Calls Tryd.prog 4 #[.int .i64 kind, a.val] w fun e w' => e = .returned (.bool true) ∧ Below w.heap.size w w' := by
  have HC := Lib.hid (fun wx h => Part_any kind a wx hz h)
  have HA := Lib.hid (fun wx => PartOf_any kind a wx hz)
  generalize partR kind a = f at HC HA
  obtain ⟨f, g⟩ := f
  dsimp only at HC HA
  have H0 := Lib.hid h0
  clear h0 hz
  obtain ⟨l, d⟩ := a
  unfold Adr.val at *
  dsimp only at *
  go_enter Tryd.func4, Tryd.ntmps4
  go_wp2_with fail
  refine (HC.out _ ?_).mono ?_
  · exact Lib0.below H0.out (Below.alloc (Below.refl _ _) (Nat.le_refl _) _)
  rintro e w1 ⟨rfl, hb1⟩
  obtain ⟨k1a, k1b, k1c⟩ := own_at hb1 (b := w.heap.size) (by first | omega | (simp; done) | (simp; omega)); have z2 := hb1.size; (try simp only [World.size_alloc, World.size_setCell] at z2)
  go_wp2_with fail
  refine (HA.out _).mono ?_
  rintro e w2 ⟨rfl, hb2⟩
  go_wp2_with fail
  go_ret
  refine ⟨by simp, ?_⟩
  (repeat (first | with_reducible exact hb2 | with_reducible refine Below.trans ?_ (Below.mono hb2 ?_) | with_reducible exact hb1 | with_reducible refine Below.trans ?_ (Below.mono hb1 ?_) | with_reducible exact Below.refl _ _ | with_reducible refine Below.setCell ?_ ?_ _ | with_reducible refine Below.alloc ?_ ?_ _ | with_reducible refine Below.drew ?_ | with_reducible refine below_drewN ?_ _))
  all_goals (first | omega | (simp; done) | (simp; omega))
set_option maxRecDepth 100000 in
theorem whoParts_run {H : Type} {enc : TypeId × Value → H} (W : World) (base : Nat) (v0 v1 : Value) (d0 : DataW H) (p0 : List MemPlace) (d1 : DataW H) (p1 : List MemPlace)
    (k0 : Value.okWide Tryd.prog W .any base 3 v0) (h0 : DataW.Trod enc Tryd.prog W 0 (fun _ => true) true 3 v0 d0 p0)
    (k1 : Value.okWide Tryd.prog W .any base 23 v1) (h1 : DataW.Trod enc Tryd.prog W 0 (fun _ => true) true 23 v1 d1 p1) (t0 : Tiny d0) (t1 : Tiny d1)
    (hL : laidMetH Tryd.prog Rows.whoPartsRow.laid W) (hsh : W.ShapedOpen Tryd.prog) :
    Calls Tryd.prog 4 #[v0, v1] W fun e W' => e = .returned (.bool true) ∧ Below W.heap.size W W' := by
  obtain ⟨n, rfl, rfl, rfl, hn⟩ := open_int Tryd.underlying3 k0 h0
  obtain ⟨a, rfl, hz⟩ := open_adr k1 h1 t1
  exact whoParts_walk n a W ⟨hz.hl, hz.hd⟩ (Lib0.open_ hsh)
end Go.Proofs.YtddiolgeaefieaaDoor

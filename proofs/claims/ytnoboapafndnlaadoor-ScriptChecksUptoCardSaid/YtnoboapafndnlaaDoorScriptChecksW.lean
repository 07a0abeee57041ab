/- The law ScriptChecks. -/
import Derived.Test.YtnoboapafndnlaaDoorOpenC
namespace Go.Proofs.YtnoboapafndnlaaDoor
open Go.RowKit
set_option linter.unusedSimpArgs false
set_option linter.unusedVariables false
open Go.ChangeShapes Go.WideShapes Go.ChangeAt
theorem tab_ok {W : World} {g : Nat} {zs : List Str} (h : TextsAt W g zs) (hz : zs.all (fun z => Nat.ble z.length 4096) = true) : ∀ (j : Nat) (x : D), (zs.map D.str)[j]? = some x → ∃ u, frzW W g j = some u ∧ VD (frzW W) x u := fun j x hx => by
  rw [List.getElem?_map] at hx
  obtain ⟨z, hz1, rfl⟩ := Option.map_eq_some_iff.1 hx
  have := List.all_eq_true.1 hz z (List.mem_of_getElem? hz1)
  have hb := Nat.le_of_ble_eq_true this
  have hm : (4096 : Nat) ≤ maxLen := by decide
  exact ⟨_, h j z hz1, VD.bstr z (by omega)⟩
def scriptT : Tbl := fun g => if g = 0 then cmdWs.map D.str else if g = 1 then tstWs.map D.str else if g = 3 then matWs.map D.str else if g = 2 then parWs.map D.str else []
theorem scriptT_tabs : Tabs scriptT := ⟨rfl, rfl, rfl, rfl⟩
theorem scriptT_ok {W : World} (h1 : TextsAt W 0 cmdWs) (h2 : TextsAt W 1 tstWs) (h3 : TextsAt W 3 matWs) (h4 : TextsAt W 2 parWs) :
    ∀ g j x, (scriptT g)[j]? = some x → ∃ u, frzW W g j = some u ∧ VD (frzW W) x u := fun g j x hx => by
  unfold scriptT at hx
  split at hx
  · rename_i hg; subst hg; exact tab_ok h1 (by decide) j x hx
  · split at hx
    · rename_i hg; subst hg; exact tab_ok h2 (by decide) j x hx
    · split at hx
      · rename_i hg; subst hg; exact tab_ok h3 (by decide) j x hx
      · split at hx
        · rename_i hg; subst hg; exact tab_ok h4 (by decide) j x hx
        · simp at hx
set_option maxRecDepth 20000 in
theorem scriptChecks_run {H : Type} {enc : TypeId × Value → H} (W : World) (base : Nat) (v0 : Value) (d0 : DataW H) (p0 : List MemPlace)
    (k0 : Value.okWide Tryd.prog W .any base 22 v0) (h0 : DataW.Trod enc Tryd.prog W 0 (fun _ => true) true 22 v0 d0 p0) (t0 : Tiny d0)
    (hL : laidMetH Tryd.prog Rows.scriptChecksRow.laid W) (hsh : W.ShapedOpen Tryd.prog) :
    Calls Tryd.prog 3 #[v0] W fun e W' => e = .returned (.bool true) ∧ Below W.heap.size W W' := by
  obtain ⟨a, n, c, rfl⟩ := okWide_slice Tryd.underlying22 k0
  obtain ⟨l, hr, hl⟩ := Dec.open_ dec_cmds h0 t0
  obtain ⟨q1, _⟩ := texts_of_laid (zs := cmdWs) (g := 0) (name := "postroom/script.commands") (by kernel_rfl) (by kernel_rfl) Tryd.underlying175 Tryd.underlying9 (by kernel_rfl) (by kernel_rfl) (List.mem_cons_self ..) (by kernel_rfl) hL
  obtain ⟨q2, _⟩ := texts_of_laid (zs := tstWs) (g := 1) (name := "postroom/script.tests") (by kernel_rfl) (by kernel_rfl) Tryd.underlying175 Tryd.underlying9 (by kernel_rfl) (by kernel_rfl) (List.mem_cons_of_mem _ (List.mem_cons_self ..)) (by kernel_rfl) hL
  obtain ⟨q3, _⟩ := texts_of_laid (zs := matWs) (g := 3) (name := "postroom/script.matches") (by kernel_rfl) (by kernel_rfl) Tryd.underlying276 Tryd.underlying9 (by kernel_rfl) (by kernel_rfl) (List.mem_cons_of_mem _ (List.mem_cons_of_mem _ (List.mem_cons_self ..))) (by kernel_rfl) hL
  obtain ⟨q4, _⟩ := texts_of_laid (zs := parWs) (g := 2) (name := "postroom/script.parts") (by kernel_rfl) (by kernel_rfl) Tryd.underlying276 Tryd.underlying9 (by kernel_rfl) (by kernel_rfl) (List.mem_cons_of_mem _ (List.mem_cons_of_mem _ (List.mem_cons_of_mem _ (List.mem_cons_self ..)))) (by kernel_rfl) hL
  have hn := cmds_len l
  have hs := lsT_len l
  refine law_calls (T := scriptT) (scriptChecks_c scriptT l (by omega) (fun x hx => Cmd.ok_of x (by have := csz_mem hx; omega)) (by omega) scriptT_tabs) (scriptT_ok q1 q2 q3 q4) ⟨rfl, fun i x hx => ?_⟩
  match i, hx with
  | 0, hx =>
    simp at hx
    subst hx
    exact ⟨_, rfl, .d (cells_one hr rfl)⟩
  | i + 1, hx => simp at hx
end Go.Proofs.YtnoboapafndnlaaDoor

/- The law postroomlaw.ScriptParses, proved: for every input it returns true and its arguments read as they did; the listed tables start as the text lays them: the card ties them. -/
import Derived.Test.YthpkjmbdjnelfaaDoorGD
import Derived.Test.YthpkjmbdjnelfaaDoorScriptParsesK2
import Derived.Test.YthpkjmbdjnelfaaDoorCards
import Derived.Test.YthpkjmbdjnelfaaDoorTie
import Derived.Test.YthpkjmbdjnelfaaDoorScriptParsesC
import Derived.Deep.DeepHandedRow
namespace Go.Proofs.YthpkjmbdjnelfaaDoor.scriptParses
open Go.RowKit Go.ChangeShapes Go.WideShapes Go.ChangeAt
set_option linter.unusedVariables false

set_option maxRecDepth 100000 in
theorem contract (H : Type) (enc : TypeId × Value → H) (W : World) (base : Nat) (args : Array Value) (ds gs : List (DataW H)) (before : List MemPlace)
    (hval : ∀ (j : Nat) t v, Tryd.f5.params[j]? = some t → args[j]? = some v → Value.okWide Tryd.prog W .any base t v)
    (hW : DataW.Whole enc Tryd.prog Tryd.f5.params.toList Rows.scriptParsesSpec.vars false W args.toList ds gs before)
    (hk : (DataW.weightsEach Tryd.prog (Tryd.f5.params.toList ++ Rows.scriptParsesSpec.plain.varTypes Tryd.prog) (ds ++ gs)).all (· ≤ reachBytes) = true)
    (hL : laidMetH Tryd.prog Rows.scriptParsesRow.laid W) (hsh : W.ShapedOpen Tryd.prog) :
    Calls Tryd.prog 5 args W fun e W' => ∃ v, e = .returned v ∧ Rows.scriptParsesSpec.post enc Tryd.prog Tryd.f5 false true false false W args v W' := by
  have hW' := hW
  obtain ⟨p, q, hA0, hV, rfl, _, _⟩ := hW
  have hA : DataW.TrodAll enc Tryd.prog W 0 (fun _ => true) true Tryd.f5.params.toList args.toList ds p := hA0
  rw [Tryd.params5] at hA hval
  obtain ⟨v0, vs0, d0, ds0, p0, q0, hargs, rfl, rfl, h0, r0⟩ := trodAll_cons hA
  obtain ⟨rfl, rfl, rfl⟩ := trodAll_nil r0
  obtain rfl : args = #[v0] := by cases args; simp_all
  obtain ⟨rfl, rfl⟩ := trodVars_none hV
  have hk2 := smalls hk
  rw [Tryd.params5] at hk2
  refine (scriptParses_run W base v0 d0 p0 (hval 0 37 v0 rfl rfl) h0 (hk2 0 _ _ rfl rfl) hL hsh).mono fun e W' ⟨he, hb⟩ => ?_
  subst he
  exact ⟨_, rfl, law_post (tb := 4) laidOut rfl rfl Tryd.underlying4 (of_decide_eq_true (by kernel_rfl)) hW' rfl rfl rfl hb⟩

noncomputable def laidWorld (os : Os) : World := layAt (layAt (layAt (layAt (World.holding Tryd.prog os ⟨#[], #[], []⟩) 1 Rows.laid_postroom_script_commands) 2 Rows.laid_postroom_script_tests) 6 Rows.laid_postroom_script_matches) 7 Rows.laid_postroom_script_parts
theorem laid_met (os : Os) : laidMetH Tryd.prog Rows.scriptParsesRow.laid ((laidWorld os).forCall (fun _ _ => 0) ⟨#[], #[.slice none 0 0], []⟩).memory := by
  rw [laidMetH_plain' _ _ _ (by kernel_rfl)]
  exact laidMet_of_run' 8 (by kernel_rfl) (by kernel_rfl)
theorem reads (os : Os) {H : Type} (enc : TypeId × Value → H) : ∃ places, DataW.whole enc Tryd.prog ((laidWorld os).forCall (fun _ _ => 0) ⟨#[], #[.slice none 0 0], []⟩).memory Tryd.f5.params.toList Rows.scriptParsesSpec.vars false (#[.slice none 0 0] : Array Value).toList 8 = some ([.nil], [], places) :=
  ⟨[], by kernel_rfl⟩

set_option maxRecDepth 100000 in
theorem lifted (os : Os) (started : os.Started) (H : Type) (enc : TypeId × Value → H) (F : Stop.Interp) :
    ReturnsInHanded {} Tryd.checked os 5 .any ((OpenSpec.ofChange Rows.scriptParsesSpec).preRow enc Tryd.prog Tryd.f5 Rows.scriptParsesRow.domain false Rows.scriptParsesRow.laid) (((OpenSpec.ofChange Rows.scriptParsesSpec).at F).post enc Tryd.prog Tryd.f5 false true false false) := by
  obtain ⟨places, hx⟩ := reads os enc
  refine returnsInHanded_of_row (C := Tryd.checked) (s := OpenSpec.ofChange Rows.scriptParsesSpec) own started (by kernel_rfl) Tryd.func5
    (witness_row_at (enc := enc) (C := Tryd.checked) false (laidWorld os) #[.slice none 0 0] rfl (by kernel_rfl) (by kernel_rfl) (by kernel_rfl)
      (OpenSpec.preRow_of_cond 8 hx (by kernel_rfl) (fun k hk => by cases hk) (by kernel_rfl) (laid_met os))) ?_
  intro W base args ds gs before hval hW _ _ hk hL hsh _
  exact contract H enc W base args ds gs before hval hW hk hL hsh

theorem said : Rows.ScriptParsesSaid :=
  OpenClaim.holds_of_cond 5 Tryd.f5 rfl rfl rfl rfl rfl rfl rfl ⟨rfl, rfl, rfl, rfl, rfl⟩ rfl rfl rfl rfl rfl (by kernel_rfl) Tryd.func5 closed
    (of_decide_eq_true (by kernel_rfl)) (by unfold Func.isWrapper; first | (rw [if_pos (by decide +kernel)]; kernel_rfl) | (rw [if_neg (by decide +kernel)]; exact ⟨rfl, rfl⟩))
    (fun os started H enc _ F => by rw [OpenClaim.pre_eq_preRow]; exact lifted os started H enc F)

set_option maxRecDepth 100000 in
theorem proved : Rows.ScriptParsesCardSaid :=
  Claim7.holds_tied_plain_at .later [] _ _ _ _ said (fun _ h => by cases h) (by kernel_rfl) (fun _ h => by cases h) scriptParses_row_tie rfl ⟨rfl, rfl⟩ (by kernel_rfl) rfl
    (fun f fn hf hfn => by
        obtain rfl : f = 5 := Option.some.inj ((show Tryd.prog.funcNamed "postroom/postroomlaw.ScriptParses" = some 5 by kernel_rfl).symm.trans hf) |>.symm
        obtain rfl : fn = Tryd.f5 := (Option.some.inj (Tryd.func5.symm.trans hfn)).symm
        refine ⟨by kernel_rfl, fun j t ht => ?_⟩
        rw [Tryd.params5] at ht
        obtain rfl : t = 37 := by simpa using Array.mem_of_getElem? ht
        all_goals exact (by kernel_rfl))
    (by kernel_rfl)
#print axioms proved
end Go.Proofs.YthpkjmbdjnelfaaDoor.scriptParses

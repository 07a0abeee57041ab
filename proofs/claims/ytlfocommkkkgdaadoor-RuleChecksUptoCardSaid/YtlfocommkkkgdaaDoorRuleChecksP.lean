/- The law postroomlaw.RuleChecks, proved: for every input it returns true and its arguments read as they did; the listed tables start as the text lays them: the card ties them. -/
import Derived.Test.YtlfocommkkkgdaaDoorGD
import Derived.Test.YtlfocommkkkgdaaDoorRuleChecksK2
import Derived.Test.YtlfocommkkkgdaaDoorCards
import Derived.Test.YtlfocommkkkgdaaDoorTie
import Derived.Test.YtlfocommkkkgdaaDoorRuleChecksC
import Derived.Deep.DeepHandedRow
namespace Go.Proofs.YtlfocommkkkgdaaDoor.ruleChecks
open Go.RowKit Go.ChangeShapes Go.WideShapes Go.ChangeAt
set_option linter.unusedVariables false

set_option maxRecDepth 100000 in
theorem contract (H : Type) (enc : TypeId × Value → H) (W : World) (base : Nat) (args : Array Value) (ds gs : List (DataW H)) (before : List MemPlace)
    (hval : ∀ (j : Nat) t v, Tryd.f3.params[j]? = some t → args[j]? = some v → Value.okWide Tryd.prog W .any base t v)
    (hW : DataW.Whole enc Tryd.prog Tryd.f3.params.toList Rows.ruleChecksSpec.vars false W args.toList ds gs before)
    (hu : Rows.uptoSmall H (ds ++ gs) = true)
    (hL : laidMetH Tryd.prog Rows.ruleChecksRow.laid W) (hsh : W.ShapedOpen Tryd.prog) :
    Calls Tryd.prog 3 args W fun e W' => ∃ v, e = .returned v ∧ Rows.ruleChecksSpec.post enc Tryd.prog Tryd.f3 false true false false W args v W' := by
  have hW' := hW
  obtain ⟨p, q, hA0, hV, rfl, _, _⟩ := hW
  have hA : DataW.TrodAll enc Tryd.prog W 0 (fun _ => true) true Tryd.f3.params.toList args.toList ds p := hA0
  rw [Tryd.params3] at hA hval
  obtain ⟨v0, vs0, d0, ds0, p0, q0, hargs, rfl, rfl, h0, r0⟩ := trodAll_cons hA
  obtain ⟨rfl, rfl, rfl⟩ := trodAll_nil r0
  obtain rfl : args = #[v0] := by cases args; simp_all
  obtain ⟨rfl, rfl⟩ := trodVars_none hV
  refine (ruleChecks_run W base v0 d0 p0 (hval 0 22 v0 rfl rfl) h0 (tinies hu 0 _ rfl) hL hsh).mono fun e W' ⟨he, hb⟩ => ?_
  subst he
  exact ⟨_, rfl, law_post (tb := 4) laidOut rfl rfl Tryd.underlying4 (of_decide_eq_true (by kernel_rfl)) hW' rfl rfl rfl hb⟩

noncomputable def laidWorld (os : Os) : World := layAt (layAt (layAt (layAt (layAt (layAt (layAt (layAt (World.holding Tryd.prog os ⟨#[], #[], []⟩) 13 Rows.laid_unicode_utf8_acceptRanges) 1 Rows.laid_postroom_script_commands) 4 Rows.laid_postroom_script_tests) 6 Rows.laid_postroom_script_matches) 5 Rows.laid_postroom_script_parts) 0 Rows.laid_postroom_rule_extensions) 2 Rows.laid_postroom_rule_names) 12 Rows.laid_unicode_utf8_first
theorem laid_met (os : Os) : laidMetH Tryd.prog Rows.ruleChecksRow.laid ((laidWorld os).forCall (fun _ _ => 0) ⟨#[], #[.slice none 0 0], []⟩).memory := by
  rw [laidMetH_plain' _ _ _ (by kernel_rfl)]
  exact laidMet_of_run' 8 (by kernel_rfl) (by kernel_rfl)
theorem reads (os : Os) {H : Type} (enc : TypeId × Value → H) : ∃ places, DataW.whole enc Tryd.prog ((laidWorld os).forCall (fun _ _ => 0) ⟨#[], #[.slice none 0 0], []⟩).memory Tryd.f3.params.toList Rows.ruleChecksSpec.vars false (#[.slice none 0 0] : Array Value).toList 8 = some ([.nil], [], places) :=
  ⟨[], by kernel_rfl⟩

set_option maxRecDepth 100000 in
theorem lifted (os : Os) (started : os.Started) (H : Type) (enc : TypeId × Value → H) (F : Stop.Interp) :
    ReturnsInHanded {} Tryd.checked os 3 .any ((Rows.OpenSpec.upto Rows.ruleChecksSpec).preRow enc Tryd.prog Tryd.f3 Rows.ruleChecksUptoRow.domain false Rows.ruleChecksUptoRow.laid) (((Rows.OpenSpec.upto Rows.ruleChecksSpec).at F).post enc Tryd.prog Tryd.f3 false true false false) := by
  obtain ⟨places, hx⟩ := reads os enc
  refine returnsInHanded_of_row (C := Tryd.checked) (s := Rows.OpenSpec.upto Rows.ruleChecksSpec) own started (by kernel_rfl) Tryd.func3
    (witness_row_at (enc := enc) (C := Tryd.checked) false (laidWorld os) #[.slice none 0 0] rfl (by kernel_rfl) (by kernel_rfl) (by kernel_rfl)
      (OpenSpec.preRow_of_cond 8 hx (by kernel_rfl) (fun k hk => by cases hk; kernel_rfl) (by kernel_rfl) (laid_met os))) ?_
  intro W base args ds gs before hval hW _ hc _ hL hsh _
  exact contract H enc W base args ds gs before hval hW (hc _ rfl) hL hsh

theorem said : Rows.RuleChecksUptoSaid :=
  OpenClaim.holds_of_cond 3 Tryd.f3 rfl rfl rfl rfl rfl rfl rfl ⟨rfl, rfl, rfl, rfl, rfl⟩ rfl rfl rfl rfl rfl (by kernel_rfl) Tryd.func3 closed
    (of_decide_eq_true (by kernel_rfl)) (by unfold Func.isWrapper; first | (rw [if_pos (by decide +kernel)]; kernel_rfl) | (rw [if_neg (by decide +kernel)]; exact ⟨rfl, rfl⟩))
    (fun os started H enc _ F => by rw [OpenClaim.pre_eq_preRow]; exact lifted os started H enc F)

set_option maxRecDepth 100000 in
theorem proved : Rows.RuleChecksUptoCardSaid :=
  Claim7.holds_tied_plain_at .later [] _ _ _ _ said (fun _ h => by cases h) (by kernel_rfl) (fun _ h => by cases h) ruleChecksUpto_row_tie rfl ⟨rfl, rfl⟩ (by kernel_rfl) rfl
    (fun f fn hf hfn => by
        obtain rfl : f = 3 := Option.some.inj ((show Tryd.prog.funcNamed "postroom/postroomlaw.RuleChecks" = some 3 by kernel_rfl).symm.trans hf) |>.symm
        obtain rfl : fn = Tryd.f3 := (Option.some.inj (Tryd.func3.symm.trans hfn)).symm
        refine ⟨by kernel_rfl, fun j t ht => ?_⟩
        rw [Tryd.params3] at ht
        obtain rfl : t = 22 := by simpa using Array.mem_of_getElem? ht
        all_goals exact (by kernel_rfl))
    (by kernel_rfl)
#print axioms proved
end Go.Proofs.YtlfocommkkkgdaaDoor.ruleChecks

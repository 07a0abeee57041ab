/- The law postroomlaw.JudgeJudges, proved: for every input it returns true and its arguments read as they did; the listed tables start as the text lays them: the card ties them. -/
import Derived.Test.YtidldcfpmehpiaaGreatDoorGD
import Derived.Test.YtidldcfpmehpiaaGreatDoorJudgeJudgesK4
import Derived.Test.YtidldcfpmehpiaaGreatDoorCards
import Derived.Test.YtidldcfpmehpiaaGreatDoorTie
import Derived.Test.YtidldcfpmehpiaaGreatDoorJudgeJudgesC
import Derived.Deep.DeepHandedRow
namespace Go.Proofs.YtidldcfpmehpiaaGreatDoor.judgeJudges
open Go.RowKit Go.ChangeShapes Go.WideShapes Go.ChangeAt
set_option linter.unusedVariables false

set_option maxRecDepth 100000 in
theorem contract (H : Type) (enc : TypeId × Value → H) (W : World) (base : Nat) (args : Array Value) (ds gs : List (DataW H)) (before : List MemPlace)
    (hval : ∀ (j : Nat) t v, Tryz.f5.params[j]? = some t → args[j]? = some v → Value.okWide Tryz.prog W .any base t v)
    (hW : DataW.Whole enc Tryz.prog Tryz.f5.params.toList Rows.judgeJudgesSpec.vars false W args.toList ds gs before)
    (hu : Rows.uptoSmall H (ds ++ gs) = true)
    (hL : laidMetH Tryz.prog Rows.judgeJudgesRow.laid W) (hsh : W.ShapedOpen Tryz.prog) :
    Calls Tryz.prog 5 args W fun e W' => ∃ v, e = .returned v ∧ Rows.judgeJudgesSpec.post enc Tryz.prog Tryz.f5 false true false false W args v W' := by
  have hW' := hW
  obtain ⟨p, q, hA0, hV, rfl, _, _⟩ := hW
  have hA : DataW.TrodAll enc Tryz.prog W 0 (fun _ => true) true Tryz.f5.params.toList args.toList ds p := hA0
  rw [Tryz.params5] at hA hval
  obtain ⟨v0, vs0, d0, ds0, p0, q0, hargs, rfl, rfl, h0, r0⟩ := trodAll_cons hA
  obtain ⟨v1, vs1, d1, ds1, p1, q1, rfl, rfl, rfl, h1, r1⟩ := trodAll_cons r0
  obtain ⟨rfl, rfl, rfl⟩ := trodAll_nil r1
  obtain rfl : args = #[v0, v1] := by cases args; simp_all
  obtain ⟨rfl, rfl⟩ := trodVars_none hV
  refine (judgeJudges_run W base v0 v1 d0 p0 d1 p1 (hval 0 22 v0 rfl rfl) h0 (hval 1 38 v1 rfl rfl) h1 (tinies hu 0 _ rfl) (tinies hu 1 _ rfl) hL hsh).mono fun e W' ⟨he, hb⟩ => ?_
  subst he
  exact ⟨_, rfl, law_post (tb := 4) laidOut rfl rfl Tryz.underlying4 (of_decide_eq_true (by kernel_rfl)) hW' rfl rfl rfl hb⟩

noncomputable def laidWorld (os : Os) : World := layAt (layAt (layAt (layAt (layAt (layAt (layAt (layAt (World.holding Tryz.prog os ⟨#[], #[], []⟩) 8 Rows.laid_unicode_utf8_acceptRanges) 1 Rows.laid_postroom_script_commands) 4 Rows.laid_postroom_script_tests) 6 Rows.laid_postroom_script_matches) 5 Rows.laid_postroom_script_parts) 0 Rows.laid_postroom_rule_extensions) 2 Rows.laid_postroom_rule_names) 7 Rows.laid_unicode_utf8_first
theorem laid_met (os : Os) : laidMetH Tryz.prog Rows.judgeJudgesRow.laid ((laidWorld os).forCall (fun _ _ => 0) ⟨#[], #[.slice none 0 0, .agg #[.string ByteArray.empty, .string ByteArray.empty, .string ByteArray.empty, .string ByteArray.empty, .string ByteArray.empty]], []⟩).memory := by
  rw [laidMetH_plain' _ _ _ (by kernel_rfl)]
  exact laidMet_of_run' 8 (by kernel_rfl) (by kernel_rfl)
theorem reads (os : Os) {H : Type} (enc : TypeId × Value → H) : ∃ places, DataW.whole enc Tryz.prog ((laidWorld os).forCall (fun _ _ => 0) ⟨#[], #[.slice none 0 0, .agg #[.string ByteArray.empty, .string ByteArray.empty, .string ByteArray.empty, .string ByteArray.empty, .string ByteArray.empty]], []⟩).memory Tryz.f5.params.toList Rows.judgeJudgesSpec.vars false (#[.slice none 0 0, .agg #[.string ByteArray.empty, .string ByteArray.empty, .string ByteArray.empty, .string ByteArray.empty, .string ByteArray.empty]] : Array Value).toList 8 = some ([.nil, .agg [.agg [.lit (.string []), .lit (.string [])], .agg [.lit (.string []), .lit (.string [])], .lit (.string [])]], [], places) :=
  ⟨[], by kernel_rfl⟩

set_option maxRecDepth 100000 in
theorem lifted (os : Os) (started : os.Started) (H : Type) (enc : TypeId × Value → H) (F : Stop.Interp) :
    ReturnsInHanded {} Tryz.checked os 5 .any ((Rows.OpenSpec.upto Rows.judgeJudgesSpec).preRow enc Tryz.prog Tryz.f5 Rows.judgeJudgesUptoRow.domain false Rows.judgeJudgesUptoRow.laid) (((Rows.OpenSpec.upto Rows.judgeJudgesSpec).at F).post enc Tryz.prog Tryz.f5 false true false false) := by
  obtain ⟨places, hx⟩ := reads os enc
  refine returnsInHanded_of_row (C := Tryz.checked) (s := Rows.OpenSpec.upto Rows.judgeJudgesSpec) own started (by kernel_rfl) Tryz.func5
    (witness_row_at (enc := enc) (C := Tryz.checked) false (laidWorld os) #[.slice none 0 0, .agg #[.string ByteArray.empty, .string ByteArray.empty, .string ByteArray.empty, .string ByteArray.empty, .string ByteArray.empty]] rfl (by kernel_rfl) (by kernel_rfl) (by kernel_rfl)
      (OpenSpec.preRow_of_cond 8 hx (by kernel_rfl) (fun k hk => by cases hk; kernel_rfl) (by kernel_rfl) (laid_met os))) ?_
  intro W base args ds gs before hval hW _ hc _ hL hsh _
  exact contract H enc W base args ds gs before hval hW (hc _ rfl) hL hsh

theorem said : Rows.JudgeJudgesUptoSaid :=
  OpenClaim.holds_of_cond 5 Tryz.f5 rfl rfl rfl rfl rfl rfl rfl ⟨rfl, rfl, rfl, rfl, rfl⟩ rfl rfl rfl rfl rfl (by kernel_rfl) Tryz.func5 closed
    (of_decide_eq_true (by kernel_rfl)) (by unfold Func.isWrapper; first | (rw [if_pos (by decide +kernel)]; kernel_rfl) | (rw [if_neg (by decide +kernel)]; exact ⟨rfl, rfl⟩))
    (fun os started H enc _ F => by rw [OpenClaim.pre_eq_preRow]; exact lifted os started H enc F)

set_option maxRecDepth 100000 in
theorem proved : Rows.JudgeJudgesUptoCardSaid :=
  Claim7.holds_tied_plain_at .later [] _ _ _ _ said (fun _ h => by cases h) (by kernel_rfl) (fun _ h => by cases h) judgeJudgesUpto_row_tie rfl ⟨rfl, rfl⟩ (by kernel_rfl) rfl
    (fun f fn hf hfn => by
        obtain rfl : f = 5 := Option.some.inj ((show Tryz.prog.funcNamed "postroom/postroomlaw.JudgeJudges" = some 5 by kernel_rfl).symm.trans hf) |>.symm
        obtain rfl : fn = Tryz.f5 := (Option.some.inj (Tryz.func5.symm.trans hfn)).symm
        refine ⟨by kernel_rfl, fun j t ht => ?_⟩
        rw [Tryz.params5] at ht
        obtain rfl | rfl : t = 22 ∨ t = 38 := by simpa using Array.mem_of_getElem? ht
        all_goals exact (by kernel_rfl))
    (by kernel_rfl)
#print axioms proved
end Go.Proofs.YtidldcfpmehpiaaGreatDoor.judgeJudges

/- The law postroomlaw.LmtpLines, proved: for every input it returns true and its arguments read as they did; the listed tables start as the text lays them: the card ties them. -/
import Derived.Test.YthpkjmbdjnelfaaDoorGD
import Derived.Test.YthpkjmbdjnelfaaDoorLmtpLinesK1
import Derived.Test.YthpkjmbdjnelfaaDoorCards
import Derived.Test.YthpkjmbdjnelfaaDoorTie
import Derived.Test.YthpkjmbdjnelfaaDoorLmtpLinesC
import Derived.Deep.DeepHandedRow
namespace Go.Proofs.YthpkjmbdjnelfaaDoor.lmtpLines
open Go.RowKit Go.ChangeShapes Go.WideShapes Go.ChangeAt
set_option linter.unusedVariables false

set_option maxRecDepth 100000 in
theorem contract (H : Type) (enc : TypeId × Value → H) (W : World) (base : Nat) (args : Array Value) (ds gs : List (DataW H)) (before : List MemPlace)
    (hval : ∀ (j : Nat) t v, Tryd.f3.params[j]? = some t → args[j]? = some v → Value.okWide Tryd.prog W .any base t v)
    (hW : DataW.Whole enc Tryd.prog Tryd.f3.params.toList Rows.lmtpLinesSpec.vars false W args.toList ds gs before)
    (hu : Rows.uptoSmall H (ds ++ gs) = true)
    (hL : laidMetH Tryd.prog Rows.lmtpLinesRow.laid W) (hsh : W.ShapedOpen Tryd.prog) :
    Calls Tryd.prog 3 args W fun e W' => ∃ v, e = .returned v ∧ Rows.lmtpLinesSpec.post enc Tryd.prog Tryd.f3 false true false false W args v W' := by
  have hW' := hW
  obtain ⟨p, q, hA0, hV, rfl, _, _⟩ := hW
  have hA : DataW.TrodAll enc Tryd.prog W 0 (fun _ => true) true Tryd.f3.params.toList args.toList ds p := hA0
  rw [Tryd.params3] at hA hval
  obtain ⟨v0, vs0, d0, ds0, p0, q0, hargs, rfl, rfl, h0, r0⟩ := trodAll_cons hA
  obtain ⟨v1, vs1, d1, ds1, p1, q1, rfl, rfl, rfl, h1, r1⟩ := trodAll_cons r0
  obtain ⟨v2, vs2, d2, ds2, p2, q2, rfl, rfl, rfl, h2, r2⟩ := trodAll_cons r1
  obtain ⟨rfl, rfl, rfl⟩ := trodAll_nil r2
  obtain rfl : args = #[v0, v1, v2] := by cases args; simp_all
  obtain ⟨rfl, rfl⟩ := trodVars_none hV
  refine (lmtpLines_run W base v0 v1 v2 d0 p0 d1 p1 d2 p2 (hval 0 26 v0 rfl rfl) h0 (hval 1 27 v1 rfl rfl) h1 (hval 2 9 v2 rfl rfl) h2 (tinies hu 0 _ rfl) (tinies hu 1 _ rfl) (tinies hu 2 _ rfl) hL hsh).mono fun e W' ⟨he, hb⟩ => ?_
  subst he
  exact ⟨_, rfl, law_post (tb := 4) laidOut rfl rfl Tryd.underlying4 (of_decide_eq_true (by kernel_rfl)) hW' rfl rfl rfl hb⟩

noncomputable def laidWorld (os : Os) : World := layAt (layAt (World.holding Tryd.prog os ⟨#[], #[], []⟩) 9 Rows.laid_unicode_utf8_acceptRanges) 8 Rows.laid_unicode_utf8_first
theorem laid_met (os : Os) : laidMetH Tryd.prog Rows.lmtpLinesRow.laid ((laidWorld os).forCall (fun _ _ => 0) ⟨#[], #[.agg #[.int .i64 0, .string ByteArray.empty, .string ByteArray.empty, .slice none 0 0, .string ByteArray.empty, .bool false], .slice none 0 0, .string ByteArray.empty], []⟩).memory := by
  rw [laidMetH_plain' _ _ _ (by kernel_rfl)]
  exact laidMet_of_run' 8 (by kernel_rfl) (by kernel_rfl)
theorem reads (os : Os) {H : Type} (enc : TypeId × Value → H) : ∃ places, DataW.whole enc Tryd.prog ((laidWorld os).forCall (fun _ _ => 0) ⟨#[], #[.agg #[.int .i64 0, .string ByteArray.empty, .string ByteArray.empty, .slice none 0 0, .string ByteArray.empty, .bool false], .slice none 0 0, .string ByteArray.empty], []⟩).memory Tryd.f3.params.toList Rows.lmtpLinesSpec.vars false (#[.agg #[.int .i64 0, .string ByteArray.empty, .string ByteArray.empty, .slice none 0 0, .string ByteArray.empty, .bool false], .slice none 0 0, .string ByteArray.empty] : Array Value).toList 8 = some ([.agg [.lit (.int .i64 0), .agg [.lit (.string []), .lit (.string [])], .nil, .lit (.string []), .lit (.bool false)], .nil, .lit (.string [])], [], places) :=
  ⟨[], by kernel_rfl⟩

set_option maxRecDepth 100000 in
theorem lifted (os : Os) (started : os.Started) (H : Type) (enc : TypeId × Value → H) (F : Stop.Interp) :
    ReturnsInHanded {} Tryd.checked os 3 .any ((Rows.OpenSpec.upto Rows.lmtpLinesSpec).preRow enc Tryd.prog Tryd.f3 Rows.lmtpLinesUptoRow.domain false Rows.lmtpLinesUptoRow.laid) (((Rows.OpenSpec.upto Rows.lmtpLinesSpec).at F).post enc Tryd.prog Tryd.f3 false true false false) := by
  obtain ⟨places, hx⟩ := reads os enc
  refine returnsInHanded_of_row (C := Tryd.checked) (s := Rows.OpenSpec.upto Rows.lmtpLinesSpec) own started (by kernel_rfl) Tryd.func3
    (witness_row_at (enc := enc) (C := Tryd.checked) false (laidWorld os) #[.agg #[.int .i64 0, .string ByteArray.empty, .string ByteArray.empty, .slice none 0 0, .string ByteArray.empty, .bool false], .slice none 0 0, .string ByteArray.empty] rfl (by kernel_rfl) (by kernel_rfl) (by kernel_rfl)
      (OpenSpec.preRow_of_cond 8 hx (by kernel_rfl) (fun k hk => by cases hk; kernel_rfl) (by kernel_rfl) (laid_met os))) ?_
  intro W base args ds gs before hval hW _ hc _ hL hsh _
  exact contract H enc W base args ds gs before hval hW (hc _ rfl) hL hsh

theorem said : Rows.LmtpLinesUptoSaid :=
  OpenClaim.holds_of_cond 3 Tryd.f3 rfl rfl rfl rfl rfl rfl rfl ⟨rfl, rfl, rfl, rfl, rfl⟩ rfl rfl rfl rfl rfl (by kernel_rfl) Tryd.func3 closed
    (of_decide_eq_true (by kernel_rfl)) (by unfold Func.isWrapper; first | (rw [if_pos (by decide +kernel)]; kernel_rfl) | (rw [if_neg (by decide +kernel)]; exact ⟨rfl, rfl⟩))
    (fun os started H enc _ F => by rw [OpenClaim.pre_eq_preRow]; exact lifted os started H enc F)

set_option maxRecDepth 100000 in
theorem proved : Rows.LmtpLinesUptoCardSaid :=
  Claim7.holds_tied_plain_at .later [] _ _ _ _ said (fun _ h => by cases h) (by kernel_rfl) (fun _ h => by cases h) lmtpLinesUpto_row_tie rfl ⟨rfl, rfl⟩ (by kernel_rfl) rfl
    (fun f fn hf hfn => by
        obtain rfl : f = 3 := Option.some.inj ((show Tryd.prog.funcNamed "postroom/postroomlaw.LmtpLines" = some 3 by kernel_rfl).symm.trans hf) |>.symm
        obtain rfl : fn = Tryd.f3 := (Option.some.inj (Tryd.func3.symm.trans hfn)).symm
        refine ⟨by kernel_rfl, fun j t ht => ?_⟩
        rw [Tryd.params3] at ht
        obtain rfl | rfl | rfl : t = 26 ∨ t = 27 ∨ t = 9 := by simpa using Array.mem_of_getElem? ht
        all_goals exact (by kernel_rfl))
    (by kernel_rfl)
#print axioms proved
end Go.Proofs.YthpkjmbdjnelfaaDoor.lmtpLines

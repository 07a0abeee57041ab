/- The law postroomlaw.DeliverDelivers, proved: for every input it returns true and its arguments read as they did; the listed tables start as the text lays them: the card ties them. -/
import Derived.Test.YtidldcfpmehpiaaGreatDoorGD
import Derived.Test.YtidldcfpmehpiaaGreatDoorDeliverDeliversK5
import Derived.Test.YtidldcfpmehpiaaGreatDoorCards
import Derived.Test.YtidldcfpmehpiaaGreatDoorTie
import Derived.Test.YtidldcfpmehpiaaGreatDoorDeliverDeliversC
import Derived.Deep.DeepHandedRow
namespace Go.Proofs.YtidldcfpmehpiaaGreatDoor.deliverDelivers
open Go.RowKit Go.ChangeShapes Go.WideShapes Go.ChangeAt
set_option linter.unusedVariables false

set_option maxRecDepth 100000 in
theorem contract (H : Type) (enc : TypeId × Value → H) (W : World) (base : Nat) (args : Array Value) (ds gs : List (DataW H)) (before : List MemPlace)
    (hval : ∀ (j : Nat) t v, Tryz.f6.params[j]? = some t → args[j]? = some v → Value.okWide Tryz.prog W .any base t v)
    (hW : DataW.Whole enc Tryz.prog Tryz.f6.params.toList Rows.deliverDeliversSpec.vars false W args.toList ds gs before)
    (hu : Rows.uptoSmall H (ds ++ gs) = true)
    (hL : laidMetH Tryz.prog Rows.deliverDeliversRow.laid W) (hsh : W.ShapedOpen Tryz.prog) :
    Calls Tryz.prog 6 args W fun e W' => ∃ v, e = .returned v ∧ Rows.deliverDeliversSpec.post enc Tryz.prog Tryz.f6 false true false false W args v W' := by
  have hW' := hW
  obtain ⟨p, q, hA0, hV, rfl, _, _⟩ := hW
  have hA : DataW.TrodAll enc Tryz.prog W 0 (fun _ => true) true Tryz.f6.params.toList args.toList ds p := hA0
  rw [Tryz.params6] at hA hval
  obtain ⟨v0, vs0, d0, ds0, p0, q0, hargs, rfl, rfl, h0, r0⟩ := trodAll_cons hA
  obtain ⟨v1, vs1, d1, ds1, p1, q1, rfl, rfl, rfl, h1, r1⟩ := trodAll_cons r0
  obtain ⟨v2, vs2, d2, ds2, p2, q2, rfl, rfl, rfl, h2, r2⟩ := trodAll_cons r1
  obtain ⟨rfl, rfl, rfl⟩ := trodAll_nil r2
  obtain rfl : args = #[v0, v1, v2] := by cases args; simp_all
  obtain ⟨rfl, rfl⟩ := trodVars_none hV
  refine (Iw W base v0 v1 v2 d0 p0 d1 p1 d2 p2 (hval 0 54 v0 rfl rfl) h0 (hval 1 38 v1 rfl rfl) h1 (hval 2 22 v2 rfl rfl) h2 (TR hu 0 _ rfl) (TR hu 1 _ rfl) (TR hu 2 _ rfl) hL hsh).mono fun e W' ⟨he, hb⟩ => ?_
  subst he
  exact ⟨_, rfl, Zo (tb := 4) Aco rfl rfl Tryz.underlying4 (of_decide_eq_true (by kernel_rfl)) hW' rfl rfl rfl hb⟩

noncomputable def laidWorld (os : Os) : World := Lq (Lq (Lq (Lq (Lq (Lq (Lq (Lq (World.holding Tryz.prog os ⟨#[], #[], []⟩) 8 Rows.laid_unicode_utf8_acceptRanges) 1 Rows.laid_postroom_script_commands) 4 Rows.laid_postroom_script_tests) 6 Rows.laid_postroom_script_matches) 5 Rows.laid_postroom_script_parts) 0 Rows.laid_postroom_rule_extensions) 2 Rows.laid_postroom_rule_names) 7 Rows.laid_unicode_utf8_first
theorem laid_met (os : Os) : laidMetH Tryz.prog Rows.deliverDeliversRow.laid ((laidWorld os).forCall (fun _ _ => 0) ⟨#[], #[.agg #[.slice none 0 0, .slice none 0 0], .agg #[.string ByteArray.empty, .string ByteArray.empty, .string ByteArray.empty, .string ByteArray.empty, .string ByteArray.empty], .slice none 0 0], []⟩).memory := by
  rw [GV _ _ _ (by kernel_rfl)]
  exact laidMet_of_run' 8 (by kernel_rfl) (by kernel_rfl)
theorem reads (os : Os) {H : Type} (enc : TypeId × Value → H) : ∃ places, DataW.whole enc Tryz.prog ((laidWorld os).forCall (fun _ _ => 0) ⟨#[], #[.agg #[.slice none 0 0, .slice none 0 0], .agg #[.string ByteArray.empty, .string ByteArray.empty, .string ByteArray.empty, .string ByteArray.empty, .string ByteArray.empty], .slice none 0 0], []⟩).memory Tryz.f6.params.toList Rows.deliverDeliversSpec.vars false (#[.agg #[.slice none 0 0, .slice none 0 0], .agg #[.string ByteArray.empty, .string ByteArray.empty, .string ByteArray.empty, .string ByteArray.empty, .string ByteArray.empty], .slice none 0 0] : Array Value).toList 8 = some ([.agg [.nil, .nil], .agg [.agg [.lit (.string []), .lit (.string [])], .agg [.lit (.string []), .lit (.string [])], .lit (.string [])], .nil], [], places) :=
  ⟨[], by kernel_rfl⟩

set_option maxRecDepth 100000 in
theorem lifted (os : Os) (started : os.Started) (H : Type) (enc : TypeId × Value → H) (F : Stop.Interp) :
    ReturnsInHanded {} Tryz.checked os 6 .any ((Rows.OpenSpec.upto Rows.deliverDeliversSpec).preRow enc Tryz.prog Tryz.f6 Rows.deliverDeliversUptoRow.domain false Rows.deliverDeliversUptoRow.laid) (((Rows.OpenSpec.upto Rows.deliverDeliversSpec).at F).post enc Tryz.prog Tryz.f6 false true false false) := by
  obtain ⟨places, hx⟩ := reads os enc
  refine returnsInHanded_of_row (C := Tryz.checked) (s := Rows.OpenSpec.upto Rows.deliverDeliversSpec) own started (by kernel_rfl) Tryz.func6
    (witness_row_at (enc := enc) (C := Tryz.checked) false (laidWorld os) #[.agg #[.slice none 0 0, .slice none 0 0], .agg #[.string ByteArray.empty, .string ByteArray.empty, .string ByteArray.empty, .string ByteArray.empty, .string ByteArray.empty], .slice none 0 0] rfl (by kernel_rfl) (by kernel_rfl) (by kernel_rfl)
      (OpenSpec.preRow_of_cond 8 hx (by kernel_rfl) (fun k hk => by cases hk; kernel_rfl) (by kernel_rfl) (laid_met os))) ?_
  intro W base args ds gs before hval hW _ hc _ hL hsh _
  exact contract H enc W base args ds gs before hval hW (hc _ rfl) hL hsh

theorem said : Rows.DeliverDeliversUptoSaid :=
  OpenClaim.holds_of_cond 6 Tryz.f6 rfl rfl rfl rfl rfl rfl rfl ⟨rfl, rfl, rfl, rfl, rfl⟩ rfl rfl rfl rfl rfl (by kernel_rfl) Tryz.func6 closed
    (of_decide_eq_true (by kernel_rfl)) (by unfold Func.isWrapper; first | (rw [if_pos (by decide +kernel)]; kernel_rfl) | (rw [if_neg (by decide +kernel)]; exact ⟨rfl, rfl⟩))
    (fun os started H enc _ F => by rw [OpenClaim.pre_eq_preRow]; exact lifted os started H enc F)

set_option maxRecDepth 100000 in
theorem proved : Rows.DeliverDeliversUptoCardSaid :=
  Claim7.holds_tied_plain_at .later [] _ _ _ _ said (fun _ h => by cases h) (by kernel_rfl) (fun _ h => by cases h) deliverDeliversUpto_row_tie rfl ⟨rfl, rfl⟩ (by kernel_rfl) rfl
    (fun f fn hf hfn => by
        obtain rfl : f = 6 := Option.some.inj ((show Tryz.prog.funcNamed "postroom/postroomlaw.DeliverDelivers" = some 6 by kernel_rfl).symm.trans hf) |>.symm
        obtain rfl : fn = Tryz.f6 := (Option.some.inj (Tryz.func6.symm.trans hfn)).symm
        refine ⟨by kernel_rfl, fun j t ht => ?_⟩
        rw [Tryz.params6] at ht
        obtain rfl | rfl | rfl : t = 54 ∨ t = 38 ∨ t = 22 := by simpa using Array.mem_of_getElem? ht
        all_goals exact (by kernel_rfl))
    (by kernel_rfl)
#print axioms proved
end Go.Proofs.YtidldcfpmehpiaaGreatDoor.deliverDelivers

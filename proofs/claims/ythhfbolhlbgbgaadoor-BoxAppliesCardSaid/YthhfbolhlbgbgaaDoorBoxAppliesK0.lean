/- Texts that the law BoxApplies rests on, packed. -/
import Derived.Test.YthhfbolhlbgbgaaDoorHE
import Derived.Test.YthhfbolhlbgbgaaDoorHC
import Derived.Test.YthhfbolhlbgbgaaDoorGS
import Derived.Test.YthhfbolhlbgbgaaDoorGY
import Derived.Test.YthhfbolhlbgbgaaDoorGD
namespace Go.Proofs.YthhfbolhlbgbgaaDoor
set_option linter.unusedSimpArgs false
set_option linter.unusedVariables false
set_option maxRecDepth 4000 in
set_option maxHeartbeats 1000000 in
theorem boxAlls_c (T : Tbl) (hL : LibT T) (s : St) (ok : StOk s) (sm : StSm s) (l : List Ent) (okl : ∀ x ∈ l, EntOk x) (hl : l.length * 72 ≤ 140737488355328) : PC Tryd.prog T 6 [.agg (stateA s), .d (.slc 6 (entsD l))] (.d (.bool true)) := by
  refine ⟨Tryd.call6, PCall.enterS Tryd.func6 rfl Tryd.ntmps6 rfl fun hb => ?_⟩
  simp only [go_sem, Tryd.results6]
  refine AWp.rs fun K1 hK1 => ?_
  try simp only [go_sem]
  intro b2
  first | intro fb2 | have fb2 := True.intro
  try simp only [freshL] at fb2
  refine hK1 _ _ ?_
  try clear hK1 K1
  refine AWp.rs fun K3 hK3 => ?_
  try simp only [go_sem]
  refine DW.pcr rfl rfl rfl rfl (states_c T s sm) rfl rfl ?_
  try simp only [go_sem]
  intro b4
  first | intro fb4 | have fb4 := True.intro
  try simp only [freshL] at fb4
  refine hK3 _ _ ?_
  try clear hK3 K3
  refine AWp.mask [false, true, true, false, true] rfl ?_
  simp only [go_sem]
  refine AWp.rs fun K5 hK5 => ?_
  try simp only [go_sem]
  refine DW.pcr rfl rfl rfl rfl (entries_c T l hl) rfl rfl ?_
  try simp only [go_sem]
  refine hK5 _ _ ?_
  try clear hK5 K5
  refine AWp.rs fun K6 hK6 => ?_
  try simp only [go_sem, fb4]
  refine DW.acp [] [] rfl rfl rfl rfl (by (try simp only [go_sem]); rfl) rfl (All_c T hL s l ok okl _ _) ?_
  rintro _ _ ⟨rfl, rfl⟩
  try simp only [go_sem]
  intro b7
  first | intro fb7 | have fb7 := True.intro
  try simp only [freshL] at fb7
  refine hK6 _ _ ?_
  try clear hK6 K6
  refine AWp.mask [true, true, true, true, true, true] rfl ?_
  simp only [go_sem]
  refine AWp.rs fun K8 hK8 => ?_
  try simp only [go_sem, fb4, fb7]
  refine DW.acp [] [] rfl rfl rfl rfl (by (try simp only [go_sem]); rfl) rfl (Entered_c T hL s l ok okl _ _) ?_
  rintro _ _ ⟨rfl, rfl⟩
  try simp only [go_sem]
  intro b9
  first | intro fb9 | have fb9 := True.intro
  try simp only [freshL] at fb9
  refine hK8 _ _ ?_
  try clear hK8 K8
  refine AWp.mask [true, true, true, true, true, true, true, true] rfl ?_
  simp only [go_sem]
  refine AWp.rs fun K10 hK10 => ?_
  try simp only [go_sem, decide_true, fb7, fb9]
  refine DW.pcgr rfl rfl rfl rfl rfl (fun hg => (sameState_c T (allS s l).1 (Nat.le_trans (all_SI s l).bx (by decide)) (fun y hy => Nat.le_trans ((all_SI s l).al y hy).1 (by decide)) (Nat.le_trans (all_SI s l).sp (by decide)))) (fun hg => by (try simp only [go_sem]) <;> first | exact hg | (exfalso; simp at hg; done) | (simpa using hg) | grind) rfl rfl ?_
  try simp only [go_sem, fb4, fb7, fb9]
  refine DW.pcgr rfl rfl rfl rfl rfl (fun hg => (sameState_c T s (by have := sm.bx; omega) (fun y hy => by have := sm.ml y hy; omega) (by have := sm.sp; omega))) (fun hg => by (try simp only [go_sem]) <;> first | exact hg | (exfalso; simp at hg; done) | (simpa using hg) | grind) rfl rfl ?_
  try simp only [go_sem]
  refine DW.pcgr rfl rfl rfl rfl rfl (fun hg => sameEntries_c T l (by omega)) (fun hg => by (try simp only [go_sem]) <;> first | exact hg | (exfalso; simp at hg; done) | (simpa using hg) | grind) rfl rfl ?_
  try simp only [go_sem]
  refine hK10 _ _ ?_
  try clear hK10 K10
  refine AWp.mask [false, false, true] rfl ?_
  simp only [go_sem]
  refine AWp.ret ?_
  try simp only [go_sem]
  try simp [LeA, LeD]
set_option maxRecDepth 4000 in
set_option maxHeartbeats 1000000 in
theorem boxApplies_c (T : Tbl) (hL : LibT T) (s : St) (ok : StOk s) (sm : StSm s) (x : Ent) (okx : EntOk x) : PC Tryd.prog T 7 [.agg (stateA s), .agg (entA x)] (.d (.bool true)) := by
  refine ⟨Tryd.call7, PCall.enterS Tryd.func7 rfl Tryd.ntmps7 rfl fun hb => ?_⟩
  simp only [go_sem, Tryd.results7]
  refine AWp.rs fun K1 hK1 => ?_
  try simp only [go_sem]
  intro b2
  first | intro fb2 | have fb2 := True.intro
  try simp only [freshL] at fb2
  intro b3
  first | intro fb3 | have fb3 := True.intro
  try simp only [freshL] at fb3
  refine hK1 _ _ ?_
  try clear hK1 K1
  refine AWp.rs fun K4 hK4 => ?_
  try simp only [go_sem, fb3]
  refine DW.pcr rfl rfl rfl rfl (states_c T s sm) rfl rfl ?_
  try simp only [go_sem]
  intro b5
  first | intro fb5 | have fb5 := True.intro
  try simp only [freshL] at fb5
  refine hK4 _ _ ?_
  try clear hK4 K4
  refine AWp.mask [false, false, true, true, false, true] rfl ?_
  simp only [go_sem]
  refine AWp.rs fun K6 hK6 => ?_
  try simp only [go_sem, fb3, fb5]
  refine DW.acp [] [] rfl rfl rfl rfl (by (try simp only [go_sem]); rfl) rfl (Apply_c T hL s x ok okx _ _) ?_
  rintro _ _ ⟨rfl, rfl⟩
  try simp only [go_sem]
  intro b7
  first | intro fb7 | have fb7 := True.intro
  try simp only [freshL] at fb7
  refine hK6 _ _ ?_
  try clear hK6 K6
  refine AWp.mask [true, true, true, true, true] rfl ?_
  simp only [go_sem]
  refine AWp.rs fun K8 hK8 => ?_
  try simp only [go_sem, fb3, fb5, fb7]
  refine DW.acp [] [] rfl rfl rfl rfl (by (try simp only [go_sem]); rfl) rfl (Entered_c T hL s [x] ok (fun y hy => by rw [List.mem_singleton.1 hy]; exact okx) _ _) ?_
  rintro _ _ ⟨rfl, rfl⟩
  try simp only [go_sem]
  intro b9
  first | intro fb9 | have fb9 := True.intro
  try simp only [freshL] at fb9
  refine hK8 _ _ ?_
  try clear hK8 K8
  refine AWp.mask [true, false, true, true, true, true, true] rfl ?_
  simp only [go_sem]
  refine AWp.rs fun K10 hK10 => ?_
  try simp only [go_sem, decide_true, fb7, fb9]
  refine DW.pcgr rfl rfl rfl rfl rfl (fun hg => (sameState_c T (allS s [x]).1 (Nat.le_trans (all_SI s [x]).bx (by decide)) (fun y hy => Nat.le_trans ((all_SI s [x]).al y hy).1 (by decide)) (Nat.le_trans (all_SI s [x]).sp (by decide)))) (fun hg => by (try simp only [go_sem]) <;> first | exact hg | (exfalso; simp at hg; done) | (simpa using hg) | grind) rfl rfl ?_
  try simp only [go_sem, fb3, fb5, fb7, fb9]
  refine DW.pcgr rfl rfl rfl rfl rfl (fun hg => (sameState_c T s (by have := sm.bx; omega) (fun y hy => by have := sm.ml y hy; omega) (by have := sm.sp; omega))) (fun hg => by (try simp only [go_sem]) <;> first | exact hg | (exfalso; simp at hg; done) | (simpa using hg) | grind) rfl rfl ?_
  try simp only [go_sem]
  refine hK10 _ _ ?_
  try clear hK10 K10
  refine AWp.mask [false, true] rfl ?_
  simp only [go_sem]
  refine AWp.ret ?_
  try simp only [go_sem]
  try simp [LeA, LeD]
end Go.Proofs.YthhfbolhlbgbgaaDoor

namespace Go.Proofs.YthhfbolhlbgbgaaDoor
open Go.RowKit Go.ChangeShapes Go.WideShapes Go.ChangeAt
set_option linter.unusedSimpArgs false
set_option linter.unusedVariables false
open Go.ChangeShapes Go.WideShapes Go.ChangeAt
set_option maxRecDepth 20000
theorem boxApplies_run {H : Type} {enc : TypeId × Value → H} (W : World) (base : Nat) (v0 v1 : Value) (d0 : DataW H) (p0 : List MemPlace) (d1 : DataW H) (p1 : List MemPlace)
    (k0 : Value.okWide Tryd.prog W .any base 25 v0) (h0 : DataW.Trod enc Tryd.prog W 0 (fun _ => true) true 25 v0 d0 p0) (k1 : Value.okWide Tryd.prog W .any base 56 v1) (h1 : DataW.Trod enc Tryd.prog W 0 (fun _ => true) true 56 v1 d1 p1) (s0 : Small Tryd.prog 25 d0) (s1 : Small Tryd.prog 56 d1)
    (hL : laidMetH Tryd.prog Rows.boxAppliesRow.laid W) (hsh : W.ShapedOpen Tryd.prog) :
    Calls Tryd.prog 7 #[v0, v1] W fun e W' => e = .returned (.bool true) ∧ Below W.heap.size W W' := by
  obtain ⟨cs, rfl, hsz⟩ := okWide_struct Tryd.underlying25 k0
  obtain ⟨s, hx, hr⟩ := DecR.open_ dec_st h0
  have hx : VDs (frzW W) [.slc 3 (boxesD s.boxes), .slc 6 (entsD s.spool)] cs.toList := hx
  obtain ⟨v8, _, hv1⟩ := hx.2 0 _ rfl
  obtain ⟨v9, _, hv2⟩ := hx.2 1 _ rfl
  obtain ⟨cs1, rfl, hsz1⟩ := okWide_struct Tryd.underlying56 k1
  obtain ⟨x, hy⟩ := Dec.open0 dec_ent h1
  have hy : VDs (frzW W) (entD x) cs1.toList := hy
  have hb : maxLen ≤ 9223372036854775807 := by decide
  obtain ⟨_, m, hm⟩ := Lib0.open_ hsh
  refine law_calls (T := libT m) (boxApplies_c (libT m) (libT_lib m) s (st_ok (v := v8) ⟨_, hv1⟩ ⟨_, hv2⟩) (st_sm hr s0) x ⟨Nat.le_trans (hy.str (j := 1) rfl) hb, Nat.le_trans (hy.str (j := 4) rfl) hb, Nat.le_trans (hy.str (j := 5) rfl) hb⟩) (libT_ok hm) ⟨rfl, fun i a ha => ?_⟩
  match i, ha with
  | 0, ha =>
    simp at ha
    subst ha
    exact ⟨_, rfl, hx.agg (G := gh0 W (frzW W))⟩
  | 1, ha =>
    simp at ha
    subst ha
    exact ⟨_, rfl, hy.agg (G := gh0 W (frzW W))⟩
  | i + 2, ha => simp at ha
end Go.Proofs.YthhfbolhlbgbgaaDoor

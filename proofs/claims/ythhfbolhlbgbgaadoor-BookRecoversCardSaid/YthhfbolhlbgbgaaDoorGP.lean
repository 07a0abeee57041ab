/- Texts that the laws rest on, packed. -/
import Derived.Test.YthhfbolhlbgbgaaDoorGN
import Derived.Test.YthhfbolhlbgbgaaDoorGY
import Derived.Test.YthhfbolhlbgbgaaDoorGK
import Derived.Test.YthhfbolhlbgbgaaDoorGC
namespace Go.Proofs.YthhfbolhlbgbgaaDoor
open Go.RowKit
set_option linter.unusedSimpArgs false
set_option linter.unusedVariables false
open Go.ChangeShapes Go.WideShapes Go.ChangeAt
set_option maxRecDepth 20000
section
variable {H : Type} {enc : TypeId × Value → H} {W : World}
theorem Dec.u8 {t : TypeId} {f : Nat} (ht : Tryd.prog.underlying t = some (.int .u8)) : Dec enc Tryd.prog W (fun c : UInt8 => [.int .u8 c.toNat]) (fun _ => 1) t f := fun m _ cs y h => by
  obtain ⟨n, e, hw⟩ := DataW.trod_int ht h
  have hn : ((ub n).toNat : Int) = n := by
    have h2 := hw.2
    simp only [Lit.wf, Bool.and_eq_true, decide_eq_true_eq] at h2
    have a1 : 0 ≤ n := h2.1
    have a2 : n ≤ 255 := h2.2
    rw [ub_nat]
    omega
  exact ⟨ub n, by rw [e]; show VDs (frzW W) [.int .u8 ((ub n).toNat : Int)] _; rw [hn]; exact .one (.int .u8 n), bulk_pos _⟩
theorem dec_bytes (f : Nat) : DecR enc Tryd.prog W (fun l : List UInt8 => [.slc 1 (byteRows l)]) (RL fun _ _ => True) 33 f := by
  cases f with
  | zero => exact DecR.zero
  | succ f => exact DecR.slc (e := fun c : UInt8 => [.int .u8 c.toNat]) (DecR.any (Dec.u8 Tryd.underlying5)) Tryd.underlying33 (by kernel_rfl) (fun _ => rfl) (by decide)
end

end Go.Proofs.YthhfbolhlbgbgaaDoor

namespace Go.Proofs.YthhfbolhlbgbgaaDoor
open Go.RowKit
set_option linter.unusedSimpArgs false
set_option linter.unusedVariables false
open Go.ChangeShapes Go.WideShapes Go.ChangeAt
set_option maxRecDepth 20000
section
variable {H : Type} {enc : TypeId × Value → H} {W : World}
theorem dec_tape (f : Nat) : DecR enc Tryd.prog W (fun p : List UInt8 × Int => [.slc 1 (byteRows p.1), .int .i64 p.2]) (fun p d => ∃ ds z, d = .agg ds ∧ ds[0]? = some z ∧ RL (fun _ _ => True) p.1 z) 35 f := by
  cases f with
  | zero => exact DecR.zero
  | succ f =>
    have hi : DecR enc Tryd.prog W (fun n : Int => [.int .i64 n]) (fun _ _ => True) 3 f := DecR.any (Dec.int Tryd.underlying3)
    exact (DecR.struct Tryd.underlying35 (by kernel_rfl) (.cons (k := 1) (dec_bytes f) (by kernel_rfl) rfl (.cons (k := 1) hi (by kernel_rfl) rfl .nil))).map
        (fun (p : List UInt8 × (Int × Unit)) => (p.1, p.2.1)) (fun p => rfl) (fun p d h => by
          obtain ⟨ds, rfl, h⟩ := h
          match ds, h with
          | [], h => exact h.elim
          | z :: ds, h => exact ⟨_, z, rfl, rfl, h.1⟩)
end
end Go.Proofs.YthhfbolhlbgbgaaDoor

namespace Go.Proofs.YthhfbolhlbgbgaaDoor
set_option linter.unusedSimpArgs false
set_option linter.unusedVariables false
def TapeOk (d : Tx) (sy : Int) : Prop := d.length ≤ 100000 ∧ 0 ≤ sy ∧ sy ≤ d.length
set_option maxRecDepth 4000 in
set_option maxHeartbeats 1000000 in
theorem CloneB_cN (T : Tbl) (F : List (Nat × Ob)) (L : List Nat) : AC Tryd.prog T 94 [.nils] (⟨F, L⟩) (fun r h => ∃ v, freshT v L ∧ r = .ret (.own v 1 ([])) ∧ h = ⟨F, v :: L⟩) := by
  refine ⟨Tryd.call94, ACalls.enterS Tryd.func94 rfl Tryd.ntmps94 rfl fun hb => ?_⟩
  simp only [go_sem, Tryd.results94]
  refine AWp.rs fun K1 hK1 => ?_
  try simp only [go_sem]
  refine hK1 _ _ ?_
  try clear hK1 K1
  refine AWp.seq fun K2 hK2 => ?_
  refine AWp.rs fun K3 hK3 => ?_
  try simp only [go_sem]
  refine hK3 _ _ ?_
  try clear hK3 K3
  refine AWp.cond _ rfl (fun hc0 => ?_) (fun hc0 => ?_)
  · skip
    try simp only [decide_eq_true_eq, decide_eq_false_iff_not, Bool.not_eq_true', Bool.not_eq_false', Bool.and_eq_true, Bool.or_eq_true, Bool.and_eq_false_iff, Bool.or_eq_false_iff, Int.not_lt, Int.not_le, beq_iff_eq, beq_eq_false_iff_ne, ne_eq, Bool.not_eq_true, Bool.not_eq_false] at hc0
    refine AWp.rs fun K4 hK4 => ?_
    try simp only [go_sem]
    refine hK4 _ _ ?_
    try clear hK4 K4
    refine AWp.ownNilS 2 1 rfl rfl (by decide) fun t0 ft0 => ?_
    try simp only [freshT] at ft0
    simp only [go_sem, ft0]
    refine AWp.ret ?_
    try simp only [thenQ, blkQ]
    apply endW_r [] [] [] [] (by (try simp only [go_sem, ft0]); rfl)
    · exact ⟨t0, ft0, rfl, rfl⟩
    · simp [LeA]
  · skip
    exact absurd hc0 (by simp)
set_option maxRecDepth 4000 in
set_option maxHeartbeats 1000000 in
theorem CloneB_cM (T : Tbl) (d : Tx) (hd : d.length ≤ 100000) (F : List (Nat × Ob)) (L : List Nat) : AC Tryd.prog T 94 [.nn 1 (byteRows d)] (⟨F, L⟩) (fun r h => ∃ v, freshT v L ∧ r = .ret (.own v 1 (byteRows d)) ∧ h = ⟨F, v :: L⟩) := by
  refine ⟨Tryd.call94, ACalls.enterS Tryd.func94 rfl Tryd.ntmps94 rfl fun hb => ?_⟩
  simp only [go_sem, Tryd.results94]
  refine AWp.rs fun K1 hK1 => ?_
  try simp only [go_sem]
  refine hK1 _ _ ?_
  try clear hK1 K1
  refine AWp.seq fun K2 hK2 => ?_
  refine AWp.rs fun K3 hK3 => ?_
  try simp only [go_sem]
  refine hK3 _ _ ?_
  try clear hK3 K3
  refine AWp.cond _ rfl (fun hc0 => ?_) (fun hc0 => ?_)
  · skip
    exact absurd hc0 (by simp)
  · skip
    try simp only [decide_eq_true_eq, decide_eq_false_iff_not, Bool.not_eq_true', Bool.not_eq_false', Bool.and_eq_true, Bool.or_eq_true, Bool.and_eq_false_iff, Bool.or_eq_false_iff, Int.not_lt, Int.not_le, beq_iff_eq, beq_eq_false_iff_ne, ne_eq, Bool.not_eq_true, Bool.not_eq_false] at hc0
    refine AWp.skip ?_
    refine thenQ_n ?_
    refine hK2 _ _ ?_
    try clear hK2 K2
    refine AWp.cut 0 fun K4 hK4 => ?_
    simp only [List.take_succ_cons, List.take_zero, List.drop_succ_cons, List.drop_zero]
    try simp only [go_sem]
    refine DW.bsO (he := by first | rfl | kernel_rfl) rfl rfl (show slI Tryd.prog 33 = some (5, 1, 1) by simp only [go_sem]) (by (try simp only [go_sem]); rfl) rfl (by decide) fun t1 ft1 => ?_
    try simp only [freshT] at ft1
    try simp only [go_sem, ft1]
    refine DW.app rfl rfl rfl rfl (show slI Tryd.prog 33 = some (5, 1, 1) by simp only [go_sem]) rfl rfl (by simp only [go_sem, ft1]) (by first | exact .inl rfl | exact .inr rfl) (by (try simp only [go_sem, List.length_append, List.length_cons, List.length_nil, wideR_len, txS_len]); omega) (by (try simp only [go_sem, List.length_append, List.length_cons, List.length_nil, wideR_len, txS_len]); omega) fun t2 ft2 => ?_
    try simp only [freshT] at ft2
    try simp only [go_sem, ft1, ft2]
    refine hK4 _ _ ?_
    try clear hK4 K4
    refine AWp.mask [false, true] rfl ?_
    simp only [go_sem]
    refine AWp.ret ?_
    apply endW_r [] [] [] [] (by (try simp only [go_sem, ft1, ft2]); rfl)
    · exact ⟨_, by first | exact ft2 | exact ft2.2, rfl, rfl⟩
    · simp [LeA]
theorem CloneB_c (T : Tbl) (d : Tx) (hd : d.length ≤ 100000) (F : List (Nat × Ob)) (L : List Nat) : AC Tryd.prog T 94 [.d (.slc 1 (byteRows d))] ⟨F, L⟩ (fun r h => ∃ v, freshT v L ∧ r = .ret (.own v 1 (byteRows d)) ∧ h = ⟨F, v :: L⟩) :=
  AC.nnil (fun e => by rw [e]; exact CloneB_cN T F L) (CloneB_cM T d hd F L)
set_option maxRecDepth 4000 in
set_option maxHeartbeats 1000000 in
theorem open_ok (T : Tbl) (d : Tx) (sy : Int) (F : List (Nat × Ob)) (L : List Nat) (ok : TapeOk d sy) : AC Tryd.prog T 58 [.agg [.d (.slc 1 (byteRows (d))), .d (.int .i64 sy)]] (⟨F, L⟩) (fun r h => ∃ v, freshT v L ∧ r = .ret (.tup [.agg [.own v 1 (byteRows d), .d (.int .i64 sy)], .d (.bool true)]) ∧ h = ⟨F, v :: L⟩) := by
  refine ⟨Tryd.call58, ACalls.enterS Tryd.func58 rfl Tryd.ntmps58 rfl fun hb => ?_⟩
  obtain ⟨ok1, ok2, ok3⟩ := ok
  simp only [go_sem, Tryd.results58]
  refine AWp.rs fun K1 hK1 => ?_
  try simp only [go_sem, icast]
  intro b1
  first | intro fb1 | have fb1 := True.intro
  try simp only [freshL] at fb1
  intro b2
  first | intro fb2 | have fb2 := True.intro
  try simp only [freshL] at fb2
  refine hK1 _ _ ?_
  try clear hK1 K1
  refine AWp.seq fun K2 hK2 => ?_
  refine AWp.rs fun K3 hK3 => ?_
  try simp only [go_sem, icast, fb1, fb2]
  (repeat (with_reducible refine And.intro ?_ ?_; (exact nfB)))
  refine hK3 _ _ ?_
  try clear hK3 K3
  refine AWp.mask [false, true, true, false, false, false, false, false, false, false, false, false, false, false, false, false, false, false, false, false, true] rfl ?_
  simp only [go_sem]
  refine AWp.cond _ rfl (fun hc0 => ?_) (fun hc0 => ?_)
  · skip
    exfalso
    simp at hc0
    omega
  · skip
    try simp only [decide_eq_true_eq, decide_eq_false_iff_not, Bool.not_eq_true', Bool.not_eq_false', Bool.and_eq_true, Bool.or_eq_true, Bool.and_eq_false_iff, Bool.or_eq_false_iff, Int.not_lt, Int.not_le, beq_iff_eq, beq_eq_false_iff_ne, ne_eq, Bool.not_eq_true, Bool.not_eq_false] at hc0
    refine AWp.skip ?_
    refine thenQ_n ?_
    refine hK2 _ _ ?_
    try clear hK2 K2
    refine AWp.dsL0 [0, 1, 3] 4 2 [5, 6, 7] rfl (by kernel_rfl) rfl rfl fun K4 hK4 => ?_
    try simp only [go_sem, icast, fb1, fb2]
    try with_reducible refine Exists.intro _ (And.intro (by first | rfl | (simp only [go_sem, icast, fb1, fb2]; first | rfl | exact ⟨by omega, rfl⟩)) ?_)
    refine DW.acp [] [] rfl rfl rfl rfl (by (try simp only [go_sem, icast, fb1, fb2]); rfl) rfl (CloneB_c T d (by omega) _ _) ?_
    rintro _ _ ⟨W5, fW5, rfl, rfl⟩
    try simp only [freshT, freshL] at fW5
    try simp only [go_sem, icast, fb1, fb2, fW5]
    try with_reducible refine And.intro (by first | rfl | (simp only [go_sem, icast, fb1, fb2, fW5]; first | done | rfl | exact ⟨by omega, rfl⟩)) ?_
    refine hK4 _ _ ?_
    try clear hK4 K4
    refine AWp.mask [false, true, true] rfl ?_
    simp only [go_sem]
    refine AWp.ret ?_
    apply endW_r [b1, b2] [] [] [] (by (try simp only [go_sem, icast, fb1, fb2, fW5]); rfl)
    · exact ⟨W5, fW5, rfl, by simp [go_sem, icast, fb1, fb2, fW5]⟩
    · simp [LeA, LeL, LeD]
set_option maxRecDepth 4000 in
set_option maxHeartbeats 1000000 in
theorem open_no (T : Tbl) (d : Tx) (sy : Int) (F : List (Nat × Ob)) (L : List Nat) (no : ¬ TapeOk d sy) : AC Tryd.prog T 58 [.agg [.d (.slc 1 (byteRows (d))), .d (.int .i64 sy)]] (⟨F, L⟩) (fun r h => r = .ret (.tup [.agg [.d (.slc 1 (byteRows ([]))), .d (.int .i64 0)], .d (.bool false)]) ∧ h = ⟨F, L⟩) := by
  refine ⟨Tryd.call58, ACalls.enterS Tryd.func58 rfl Tryd.ntmps58 rfl fun hb => ?_⟩
  unfold TapeOk at no
  simp only [go_sem, Tryd.results58]
  refine AWp.rs fun K1 hK1 => ?_
  try simp only [go_sem, icast]
  intro b1
  first | intro fb1 | have fb1 := True.intro
  try simp only [freshL] at fb1
  intro b2
  first | intro fb2 | have fb2 := True.intro
  try simp only [freshL] at fb2
  refine hK1 _ _ ?_
  try clear hK1 K1
  refine AWp.seq fun K2 hK2 => ?_
  refine AWp.rs fun K3 hK3 => ?_
  try simp only [go_sem, icast, fb1, fb2]
  (repeat (with_reducible refine And.intro ?_ ?_; (exact nfB)))
  refine hK3 _ _ ?_
  try clear hK3 K3
  refine AWp.mask [false, true, true, false, false, false, false, false, false, false, false, false, false, false, false, false, false, false, false, false, true] rfl ?_
  simp only [go_sem]
  refine AWp.cond _ rfl (fun hc0 => ?_) (fun hc0 => ?_)
  · skip
    try simp only [decide_eq_true_eq, decide_eq_false_iff_not, Bool.not_eq_true', Bool.not_eq_false', Bool.and_eq_true, Bool.or_eq_true, Bool.and_eq_false_iff, Bool.or_eq_false_iff, Int.not_lt, Int.not_le, beq_iff_eq, beq_eq_false_iff_ne, ne_eq, Bool.not_eq_true, Bool.not_eq_false] at hc0
    refine AWp.rs fun K4 hK4 => ?_
    try simp only [go_sem, icast, fb1, fb2]
    refine hK4 _ _ ?_
    try clear hK4 K4
    refine AWp.ret ?_
    try simp only [thenQ, blkQ]
    apply endW_r [b1, b2] [] [] [] (by (try simp only [go_sem, icast, fb1, fb2]); rfl)
    · exact ⟨rfl, by simp [go_sem, icast, fb1, fb2]⟩
    · simp [LeA, LeL, LeD, byteRows]
  · skip
    exfalso
    simp at hc0
    omega
/-- what Append answers -/
def apE (d : Tx) (sy u : Int) (l : List Ent) : Int := if 100000 < d.length ∨ sy < 0 ∨ (d.length : Int) < sy then 11 else if ¬ batE u l = 0 then batE u l else if 100000 < d.length + 3 + (batS u l).length then 5 else 0
end Go.Proofs.YthhfbolhlbgbgaaDoor

namespace Go.Proofs.YthhfbolhlbgbgaaDoor
set_option linter.unusedSimpArgs false
set_option linter.unusedVariables false
/-- what Append answers: data, synced, error -/
def apR (d : Tx) (sy u : Int) (l : List Ent) : Tx × Int × Int :=
  if 100000 < d.length ∨ sy < 0 ∨ (d.length : Int) < sy then ([], 0, 11)
  else if ¬ batE u l = 0 then ([], 0, batE u l)
  else if 100000 < d.length + 3 + (batS u l).length then ([], 0, 5)
  else (d ++ wideR (batS u l).length 3 ++ batS u l, sy, 0)
section
variable {d : Tx} {sy u : Int} {l : List Ent}
theorem tape_no (h : ¬ TapeOk d sy) : 100000 < d.length ∨ sy < 0 ∨ (d.length : Int) < sy := by unfold TapeOk at h; omega
theorem tape_yes (h : TapeOk d sy) : ¬ (100000 < d.length ∨ sy < 0 ∨ (d.length : Int) < sy) := by unfold TapeOk at h; omega
theorem ap_1 (h : ¬ TapeOk d sy) : apR d sy u l = ([], 0, 11) := if_pos (tape_no h)
theorem ap_2 (h : TapeOk d sy) (h2 : ¬ batE u l = 0) : apR d sy u l = ([], 0, batE u l) := by rw [apR, if_neg (tape_yes h), if_pos h2]
theorem ap_3 (h : TapeOk d sy) (h2 : batE u l = 0) (h3 : 100000 < d.length + 3 + (batS u l).length) : apR d sy u l = ([], 0, 5) := by rw [apR, if_neg (tape_yes h), if_neg (by simp [h2]), if_pos h3]
theorem ap_4 (h : TapeOk d sy) (h2 : batE u l = 0) (h3 : ¬ 100000 < d.length + 3 + (batS u l).length) : apR d sy u l = (d ++ wideR (batS u l).length 3 ++ batS u l, sy, 0) := by rw [apR, if_neg (tape_yes h), if_neg (by simp [h2]), if_neg h3]
theorem ensS_len : ∀ {l : List Ent}, (∀ x ∈ l, entE x = 0) → (ensS l).length ≤ 2200 * l.length
  | [], _ => by simp [ensS]
  | x :: l, h => by
    have h1 := enS_len (h x (List.mem_cons_self ..))
    have h2 := ensS_len (l := l) fun y hy => h y (List.mem_cons_of_mem _ hy)
    simp only [ensS, List.length_append, List.length_cons]; omega
theorem batS_len (h : batE u l = 0) : (batS u l).length ≤ 22002 := by
  obtain ⟨_, _, _, h4, h5⟩ := batE_0 h
  have := ensS_len h5
  simp only [batS, List.length_cons]; omega
theorem encT_0 (h : batE u l = 0) : encT u l = batS u l := if_pos h
end
set_option maxRecDepth 4000 in
set_option maxHeartbeats 1000000 in
theorem TapeMay_ok (T : Tbl) (d : Tx) (sy : Int) (ok : TapeOk d sy) : PC Tryd.prog T 61 [.agg [.d (.slc 1 (byteRows (d))), .d (.int .i64 sy)]] (.d (.bool true)) := by
  refine ⟨Tryd.call61, PCall.enterS Tryd.func61 rfl Tryd.ntmps61 rfl fun hb => ?_⟩
  obtain ⟨ok1, ok2, ok3⟩ := ok
  simp only [go_sem, Tryd.results61]
  refine AWp.rs fun K1 hK1 => ?_
  try simp only [go_sem, icast]
  intro b1
  first | intro fb1 | have fb1 := True.intro
  try simp only [freshL] at fb1
  refine hK1 _ _ ?_
  try clear hK1 K1
  refine AWp.rs fun K2 hK2 => ?_
  try simp only [go_sem, icast, fb1]
  refine DW.pcgr rfl rfl rfl rfl rfl (fun hg => In_c T _ _ _) (fun hg => by (try simp only [go_sem, icast, fb1]) <;> first | exact hg | (exfalso; simp at hg; done) | (simpa using hg) | grind) rfl rfl ?_
  try simp only [go_sem, icast, fb1]
  refine hK2 _ _ ?_
  try clear hK2 K2
  refine AWp.mask [false, false, true] rfl ?_
  simp only [go_sem]
  refine AWp.ret ?_
  try simp only [go_sem, icast, fb1]
  simp [LeA, LeD]; omega
set_option maxRecDepth 4000 in
set_option maxHeartbeats 1000000 in
theorem TapeMay_no (T : Tbl) (d : Tx) (sy : Int) (no : ¬ TapeOk d sy) : PC Tryd.prog T 61 [.agg [.d (.slc 1 (byteRows (d))), .d (.int .i64 sy)]] (.d (.bool false)) := by
  refine ⟨Tryd.call61, PCall.enterS Tryd.func61 rfl Tryd.ntmps61 rfl fun hb => ?_⟩
  unfold TapeOk at no
  simp only [go_sem, Tryd.results61]
  refine AWp.rs fun K1 hK1 => ?_
  try simp only [go_sem, icast]
  intro b1
  first | intro fb1 | have fb1 := True.intro
  try simp only [freshL] at fb1
  refine hK1 _ _ ?_
  try clear hK1 K1
  refine AWp.rs fun K2 hK2 => ?_
  try simp only [go_sem, icast, fb1]
  refine DW.pcgr rfl rfl rfl rfl rfl (fun hg => In_c T _ _ _) (fun hg => by (try simp only [go_sem, icast, fb1]) <;> first | exact hg | (exfalso; simp at hg; done) | (simpa using hg) | grind) rfl rfl ?_
  try simp only [go_sem, icast, fb1]
  refine hK2 _ _ ?_
  try clear hK2 K2
  refine AWp.mask [false, false, true] rfl ?_
  simp only [go_sem]
  refine AWp.ret ?_
  try simp only [go_sem, icast, fb1]
  simp [LeA, LeD]; omega
set_option maxRecDepth 4000 in
set_option maxHeartbeats 1000000 in
theorem Append_c (T : Tbl) (hL : LibT T) (d : Tx) (sy u : Int) (l : List Ent) (oke : ∀ x ∈ l, EntOk x) : PC Tryd.prog T 20 [.agg [.d (.slc 1 (byteRows (d))), .d (.int .i64 sy)], .agg [.d (.int .i64 u), .d (.slc 6 (entsD l))]] (.tup [.agg [.d (.slc 1 (byteRows ((apR d sy u l).1))), .d (.int .i64 ((apR d sy u l).2.1))], .d (.int .i64 ((apR d sy u l).2.2))]) := by
  refine ⟨Tryd.call20, PCall.enterS Tryd.func20 rfl Tryd.ntmps20 rfl fun hb => ?_⟩
  simp only [go_sem, Tryd.results20]
  refine AWp.rs fun K1 hK1 => ?_
  try simp only [go_sem, icast, byteRows_len, byteRows_app, encV]
  intro b2
  first | intro fb2 | have fb2 := True.intro
  try simp only [freshL] at fb2
  intro b3
  first | intro fb3 | have fb3 := True.intro
  try simp only [freshL] at fb3
  intro b4
  first | intro fb4 | have fb4 := True.intro
  try simp only [freshL] at fb4
  refine hK1 _ _ ?_
  try clear hK1 K1
  by_cases ok : TapeOk d sy
  · skip
    refine AWp.rs fun K2 hK2 => ?_
    try simp only [go_sem, icast, byteRows_len, byteRows_app, encV, fb2, fb3, fb4]
    refine DW.acp [] [] rfl rfl rfl rfl (by (try simp only [go_sem, icast, byteRows_len, byteRows_app, encV, fb2, fb3, fb4]); rfl) rfl (open_ok T d sy _ _ ok) ?_
    rintro _ _ ⟨W3, fW3, rfl, rfl⟩
    try simp only [freshT, freshL] at fW3
    try simp only [go_sem, icast, byteRows_len, byteRows_app, encV, fb2, fb3, fb4, fW3]
    intro b6
    first | intro fb6 | have fb6 := True.intro
    try simp only [freshL] at fb6
    refine hK2 _ _ ?_
    try clear hK2 K2
    refine AWp.mask [false, false, false, true, true, false, true, true] rfl ?_
    simp only [go_sem]
    refine AWp.seq fun K4 hK4 => ?_
    refine AWp.rs fun K5 hK5 => ?_
    try simp only [go_sem, icast, byteRows_len, byteRows_app, encV, fb2, fb3, fb4, fW3, fb6]
    refine hK5 _ _ ?_
    try clear hK5 K5
    refine AWp.cond _ rfl (fun hc0 => ?_) (fun hc0 => ?_)
    · skip
      exact absurd hc0 (by simp)
    · skip
      try simp only [decide_eq_true_eq, decide_eq_false_iff_not, Bool.not_eq_true', Bool.not_eq_false', Bool.and_eq_true, Bool.or_eq_true, Bool.and_eq_false_iff, Bool.or_eq_false_iff, Int.not_lt, Int.not_le, beq_iff_eq, beq_eq_false_iff_ne, ne_eq, Bool.not_eq_true, Bool.not_eq_false] at hc0
      obtain ⟨ok1, ok2, ok3⟩ := id ok
      refine AWp.skip ?_
      refine thenQ_n ?_
      refine hK4 _ _ ?_
      try clear hK4 K4
      refine AWp.rs fun K6 hK6 => ?_
      try simp only [go_sem, icast, byteRows_len, byteRows_app, encV, fb2, fb3, fb4, fW3, fb6]
      refine DW.pcr rfl rfl rfl rfl (Encode_c T hL u l oke) rfl rfl ?_
      try simp only [go_sem, icast, byteRows_len, byteRows_app, encV, fb2, fb3, fb4, fW3, fb6]
      refine hK6 _ _ ?_
      try clear hK6 K6
      refine AWp.mask [false, true, true, false, true, true] rfl ?_
      simp only [go_sem]
      refine AWp.seq fun K7 hK7 => ?_
      refine AWp.rs fun K8 hK8 => ?_
      try simp only [go_sem, icast, byteRows_len, byteRows_app, encV, fb2, fb3, fb4, fW3, fb6]
      refine hK8 _ _ ?_
      try clear hK8 K8
      refine AWp.cond _ rfl (fun hc1 => ?_) (fun hc1 => ?_)
      · skip
        try simp only [decide_eq_true_eq, decide_eq_false_iff_not, Bool.not_eq_true', Bool.not_eq_false', Bool.and_eq_true, Bool.or_eq_true, Bool.and_eq_false_iff, Bool.or_eq_false_iff, Int.not_lt, Int.not_le, beq_iff_eq, beq_eq_false_iff_ne, ne_eq, Bool.not_eq_true, Bool.not_eq_false] at hc1
        refine AWp.rs fun K9 hK9 => ?_
        try simp only [go_sem, icast, byteRows_len, byteRows_app, encV, fb2, fb3, fb4, fW3, fb6]
        refine hK9 _ _ ?_
        try clear hK9 K9
        refine AWp.mask [true, true] rfl ?_
        simp only [go_sem]
        refine AWp.ret ?_
        try simp only [go_sem, icast, byteRows_len, byteRows_app, encV, fb2, fb3, fb4, fW3, fb6]
        rw [ap_2 ok hc1]; simp [LeA, LeL, LeD, byteRows]
      · skip
        try simp only [decide_eq_true_eq, decide_eq_false_iff_not, Bool.not_eq_true', Bool.not_eq_false', Bool.and_eq_true, Bool.or_eq_true, Bool.and_eq_false_iff, Bool.or_eq_false_iff, Int.not_lt, Int.not_le, beq_iff_eq, beq_eq_false_iff_ne, ne_eq, Bool.not_eq_true, Bool.not_eq_false] at hc1
        have hbl := batS_len hc1
        rw [encT_0 hc1] at *
        refine AWp.skip ?_
        refine thenQ_n ?_
        refine hK7 _ _ ?_
        try clear hK7 K7
        refine AWp.seq fun K10 hK10 => ?_
        refine AWp.rs fun K11 hK11 => ?_
        try simp only [go_sem, icast, byteRows_len, byteRows_app, encV, fb2, fb3, fb4, fW3, fb6]
        (repeat (with_reducible refine And.intro ?_ ?_; omega))
        refine hK11 _ _ ?_
        try clear hK11 K11
        refine AWp.mask [true, true, true, false, false, false, false, false, false, false, false, false, false, true] rfl ?_
        simp only [go_sem]
        refine AWp.cond _ rfl (fun hc2 => ?_) (fun hc2 => ?_)
        · skip
          try simp only [decide_eq_true_eq, decide_eq_false_iff_not, Bool.not_eq_true', Bool.not_eq_false', Bool.and_eq_true, Bool.or_eq_true, Bool.and_eq_false_iff, Bool.or_eq_false_iff, Int.not_lt, Int.not_le, beq_iff_eq, beq_eq_false_iff_ne, ne_eq, Bool.not_eq_true, Bool.not_eq_false] at hc2
          refine AWp.rs fun K12 hK12 => ?_
          try simp only [go_sem, icast, byteRows_len, byteRows_app, encV, fb2, fb3, fb4, fW3, fb6]
          refine hK12 _ _ ?_
          try clear hK12 K12
          refine AWp.mask [true, true] rfl ?_
          simp only [go_sem]
          refine AWp.ret ?_
          try simp only [go_sem, icast, byteRows_len, byteRows_app, encV, fb2, fb3, fb4, fW3, fb6]
          rw [ap_3 ok hc1 (by omega)]; simp [LeA, LeL, LeD, byteRows]
        · skip
          try simp only [decide_eq_true_eq, decide_eq_false_iff_not, Bool.not_eq_true', Bool.not_eq_false', Bool.and_eq_true, Bool.or_eq_true, Bool.and_eq_false_iff, Bool.or_eq_false_iff, Int.not_lt, Int.not_le, beq_iff_eq, beq_eq_false_iff_ne, ne_eq, Bool.not_eq_true, Bool.not_eq_false] at hc2
          refine AWp.skip ?_
          refine thenQ_n ?_
          refine hK10 _ _ ?_
          try clear hK10 K10
          refine AWp.rs fun K13 hK13 => ?_
          try simp only [go_sem, icast, byteRows_len, byteRows_app, encV, fb2, fb3, fb4, fW3, fb6]
          refine DW.acp [] [W3] rfl rfl rfl rfl (by (try simp only [go_sem, icast, byteRows_len, byteRows_app, encV, fb2, fb3, fb4, fW3, fb6]); rfl) rfl (wide_c T W3 _ ((batS u l).length : Int) 3 _ _ (by omega) (by trivial) (by omega)) ?_
          rintro _ _ ⟨W14, fW14, rfl, rfl⟩
          try simp only [freshT, freshL] at fW14
          try simp only [go_sem, icast, byteRows_len, byteRows_app, encV, fb2, fb3, fb4, fW3, fb6, fW14]
          refine DW.app rfl rfl rfl rfl (show slI Tryd.prog 33 = some (5, 1, 1) by simp only [go_sem]) rfl rfl (by simp only [go_sem, icast, byteRows_len, byteRows_app, encV, fb2, fb3, fb4, fW3, fb6, fW14]) (by first | exact .inl rfl | exact .inr rfl) (by (try simp only [go_sem, byteRows_len, List.length_append, List.length_cons, List.length_nil, wideR_len, txS_len]); omega) (by (try simp only [go_sem, byteRows_len, List.length_append, List.length_cons, List.length_nil, wideR_len, txS_len]); omega) fun t1 ft1 => ?_
          try simp only [freshT] at ft1
          try simp only [go_sem, icast, byteRows_len, byteRows_app, encV, fb2, fb3, fb4, fW3, fb6, fW14, ft1]
          refine hK13 _ _ ?_
          try clear hK13 K13
          refine AWp.mask [true, true] rfl ?_
          simp only [go_sem]
          refine AWp.rs fun K15 hK15 => ?_
          try simp only [go_sem, icast, byteRows_len, byteRows_app, encV, fb2, fb3, fb4, fW3, fb6, fW14, ft1]
          refine hK15 _ _ ?_
          try clear hK15 K15
          refine AWp.ret ?_
          try simp only [go_sem, icast, byteRows_len, byteRows_app, encV, fb2, fb3, fb4, fW3, fb6, fW14, ft1]
          rw [ap_4 ok hc1 (by omega)]; simp [LeA, LeL, LeD, byteRows]
  · skip
    have no := ok
    refine AWp.rs fun K2 hK2 => ?_
    try simp only [go_sem, icast, byteRows_len, byteRows_app, encV, fb2, fb3, fb4]
    refine DW.acp [] [] rfl rfl rfl rfl (by (try simp only [go_sem, icast, byteRows_len, byteRows_app, encV, fb2, fb3, fb4]); rfl) rfl (open_no T d sy _ _ no) ?_
    rintro _ _ ⟨rfl, rfl⟩
    try simp only [go_sem, icast, byteRows_len, byteRows_app, encV, fb2, fb3, fb4]
    intro b6
    first | intro fb6 | have fb6 := True.intro
    try simp only [freshL] at fb6
    refine hK2 _ _ ?_
    try clear hK2 K2
    refine AWp.mask [false, false, false, true, true, false, true, true] rfl ?_
    simp only [go_sem]
    refine AWp.seq fun K16 hK16 => ?_
    refine AWp.rs fun K17 hK17 => ?_
    try simp only [go_sem, icast, byteRows_len, byteRows_app, encV, fb2, fb3, fb4, fb6]
    refine hK17 _ _ ?_
    try clear hK17 K17
    refine AWp.cond _ rfl (fun hc0 => ?_) (fun hc0 => ?_)
    · skip
      try simp only [decide_eq_true_eq, decide_eq_false_iff_not, Bool.not_eq_true', Bool.not_eq_false', Bool.and_eq_true, Bool.or_eq_true, Bool.and_eq_false_iff, Bool.or_eq_false_iff, Int.not_lt, Int.not_le, beq_iff_eq, beq_eq_false_iff_ne, ne_eq, Bool.not_eq_true, Bool.not_eq_false] at hc0
      refine AWp.rs fun K18 hK18 => ?_
      try simp only [go_sem, icast, byteRows_len, byteRows_app, encV, fb2, fb3, fb4, fb6]
      refine hK18 _ _ ?_
      try clear hK18 K18
      refine AWp.mask [false, true, true] rfl ?_
      simp only [go_sem]
      refine AWp.ret ?_
      try simp only [go_sem, icast, byteRows_len, byteRows_app, encV, fb2, fb3, fb4, fb6]
      rw [ap_1 ok]; simp [LeA, LeL, LeD, byteRows]
    · skip
      exact absurd hc0 (by simp)
end Go.Proofs.YthhfbolhlbgbgaaDoor

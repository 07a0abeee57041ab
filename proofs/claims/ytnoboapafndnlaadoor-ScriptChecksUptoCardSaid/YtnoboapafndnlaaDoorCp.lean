/- Copies of data. -/
import Derived.Test.YtnoboapafndnlaaDoorAvTy
import Derived.Test.YtnoboapafndnlaaDoorAvData
namespace Go.Proofs.YtnoboapafndnlaaDoor
set_option linter.unusedSimpArgs false
set_option linter.unusedVariables false
set_option maxRecDepth 4000 in
set_option maxHeartbeats 1000000 in
theorem texts_c (T : Tbl) (l : List Str) (hl : l.length * 16 ≤ 140737488355328) : PC Tryd.prog T 106 [.d (strs l)] (.d (strs l)) := by
  refine ⟨Tryd.call106, PCall.enter Tryd.func106 rfl Tryd.ntmps106 fun hb => ?_⟩
  try simp only [go_sem, Tryd.results106]
  refine AWp.rs fun K1 hK1 => ?_
  try simp only [go_sem]
  (repeat (with_reducible refine And.intro ?_ ?_; (first | omega | (intro _; omega) | decide)))
  refine hK1 _ _ ?_
  try clear hK1 K1
  refine AWp.rs fun K2 hK2 => ?_
  try simp only [go_sem]
  (repeat (with_reducible refine And.intro ?_ ?_; (first | omega | (intro _; omega) | decide)))
  refine DW.appNil rfl rfl rfl rfl (show slI Tryd.prog 65 = some (9, 1, 16) by simp only [go_sem]) rfl rfl (by first | exact .inl rfl | exact .inr rfl) (by first | omega | (simp only [go_sem]; omega) | (simp only [go_sem, List.length_take, List.length_map]; omega)) (by first | omega | (simp only [go_sem]; omega) | (simp only [go_sem, List.length_take, List.length_map]; omega)) fun t1 ft1 => ?_
  try simp only [freshT] at ft1
  try simp only [go_sem, ft1]
  (repeat (with_reducible refine And.intro ?_ ?_; (first | omega | (intro _; omega) | decide)))
  refine hK2 _ _ ?_
  try clear hK2 K2
  refine AWp.ret ?_
  try simp only [go_sem, ft1]
  skip
set_option maxRecDepth 4000 in
set_option maxHeartbeats 1000000 in
theorem tests_step (T : Tbl) (t : Tst) (ok : t.Ok) (ih : ∀ x ∈ t.kids, PC Tryd.prog T 107 [.agg (tstA x)] (.agg (tstA x))) : PC Tryd.prog T 107 [.agg (tstA t)] (.agg (tstA t)) := by
  refine ⟨Tryd.call107, PCall.enter Tryd.func107 rfl Tryd.ntmps107 fun hb => ?_⟩
  obtain ⟨s1, s2, s3, s4⟩ := ok.inv
  try simp only [go_sem, Tryd.results107]
  refine AWp.rs fun K1 hK1 => ?_
  try simp only [go_sem]
  (repeat (with_reducible refine And.intro ?_ ?_; (first | omega | (intro _; omega) | decide)))
  intro b1 fb1
  try simp only [freshL] at fb1
  try simp only [go_sem, fb1]
  (repeat (with_reducible refine And.intro ?_ ?_; (first | omega | (intro _; omega) | decide)))
  intro b2 fb2
  try simp only [freshL] at fb2
  try simp only [go_sem, fb1, fb2]
  (repeat (with_reducible refine And.intro ?_ ?_; (first | omega | (intro _; omega) | decide)))
  refine hK1 _ _ ?_
  try clear hK1 K1
  refine AWp.rs fun K4 hK4 => ?_
  try simp only [go_sem, fb1, fb2]
  (repeat (with_reducible refine And.intro ?_ ?_; (first | omega | (intro _; omega) | decide)))
  refine DW.pcr rfl rfl rfl rfl (texts_c T _ (by omega)) rfl rfl ?_
  try simp only [go_sem, fb1, fb2]
  (repeat (with_reducible refine And.intro ?_ ?_; (first | omega | (intro _; omega) | decide)))
  refine hK4 _ _ ?_
  try clear hK4 K4
  refine AWp.rs fun K5 hK5 => ?_
  try simp only [go_sem, fb1, fb2]
  (repeat (with_reducible refine And.intro ?_ ?_; (first | omega | (intro _; omega) | decide)))
  refine DW.pcr rfl rfl rfl rfl (texts_c T _ (by omega)) rfl rfl ?_
  try simp only [go_sem, fb1, fb2]
  (repeat (with_reducible refine And.intro ?_ ?_; (first | omega | (intro _; omega) | decide)))
  refine hK5 _ _ ?_
  try clear hK5 K5
  refine AWp.rs fun K6 hK6 => ?_
  try simp only [go_sem, fb1, fb2]
  (repeat (with_reducible refine And.intro ?_ ?_; (first | omega | (intro _; omega) | decide)))
  refine hK6 _ _ ?_
  try clear hK6 K6
  refine AWp.seq fun K7 hK7 => ?_
  refine AWp.rs fun K8 hK8 => ?_
  try simp only [go_sem, fb1, fb2]
  (repeat (with_reducible refine And.intro ?_ ?_; (first | omega | (intro _; omega) | decide)))
  refine hK8 _ _ ?_
  try clear hK8 K8
  refine AWp.block ?_
  refine AWp.ownNil 3 8 rfl (by decide) fun u => ?_
  try simp only [go_sem]
  refine AWp.loop [1, 2, 3, 4] (fun n s h => ∃ (k u : Nat), k ≤ t.kids.length ∧ n = t.kids.length - k ∧ s = [.any, .ptr b1 8 0 0, .ptr b2 8 0 0, .own u 8 ((kidsD t).take k), .d (.int .i64 k), .any, .any, .any, .any, .any, .any, .any, .any, .any, .any, .any, .any, .any, .any, .any, .any, .any, .any, .any, .any, .any, .any, .any, .any, .any, .any, .any, .any, .any] ∧ h = ⟨[(b2, ⟨8, 1, [[.d (.int .i64 0), .d (.int .i64 0), .d (.int .i64 0), .nils, .nils, .d (.bool false), .d (.int .i64 0), .nils]]⟩), (b1, ⟨8, 1, [tstA t]⟩)], [u]⟩) ⟨_, 0, _, Nat.zero_le _, rfl, rfl, by simp only [go_sem]⟩ ?_
  rintro n s h ⟨k, u, hk, rfl, rfl, rfl⟩
  try simp only [go_sem]
  refine AWp.seq fun K9 hK9 => ?_
  refine AWp.rs fun K10 hK10 => ?_
  try simp only [go_sem, fb1, fb2]
  (repeat (with_reducible refine And.intro ?_ ?_; (first | omega | (intro _; omega) | decide)))
  refine hK10 _ _ ?_
  try clear hK10 K10
  refine AWp.cond _ rfl (fun hc0 => ?_) (fun hc0 => ?_)
  · skip
    have hlt : k < t.kids.length := by simpa using hc0
    refine AWp.skip ?_
    refine thenQ_n ?_
    refine hK9 _ _ ?_
    try clear hK9 K9
    refine AWp.seq fun K11 hK11 => ?_
    refine AWp.block ?_
    refine AWp.rs fun K12 hK12 => ?_
    try simp only [go_sem, fb1, fb2, kidsD_get t k _ hlt]
    (repeat (with_reducible refine And.intro ?_ ?_; (first | omega | (intro _; omega) | decide)))
    refine DW.pcr rfl rfl rfl rfl (ih _ (List.getElem_mem hlt)) rfl rfl ?_
    try simp only [go_sem, fb1, fb2, kidsD_get t k _ hlt]
    (repeat (with_reducible refine And.intro ?_ ?_; (first | omega | (intro _; omega) | decide)))
    intro b13 fb13
    try simp only [freshL] at fb13
    try simp only [go_sem, fb1, fb2, kidsD_get t k _ hlt, fb13]
    (repeat (with_reducible refine And.intro ?_ ?_; (first | omega | (intro _; omega) | decide)))
    refine hK12 _ _ ?_
    try clear hK12 K12
    refine AWp.rk fun K14 hK14 => ?_
    try simp only [go_sem, fb1, fb2, kidsD_get t k _ hlt, fb13]
    (repeat (with_reducible refine And.intro ?_ ?_; (first | omega | (intro _; omega) | decide)))
    refine DW.app rfl rfl rfl rfl (show slI Tryd.prog 94 = some (96, 8, 112) by simp only [go_sem]) rfl rfl (by simp only [go_sem, fb1, fb2, kidsD_get t k _ hlt, fb13]) (by first | exact .inl rfl | exact .inr rfl) (by first | omega | (simp only [go_sem]; omega) | (simp only [go_sem, List.length_take, List.length_map]; omega)) (by first | omega | (simp only [go_sem]; omega) | (simp only [go_sem, List.length_take, List.length_map]; omega)) fun t1 ft1 => ?_
    try simp only [freshT] at ft1
    try simp only [go_sem, fb1, fb2, kidsD_get t k _ hlt, fb13, ft1]
    (repeat (with_reducible refine And.intro ?_ ?_; (first | omega | (intro _; omega) | decide)))
    refine hK14 _ _ ?_
    try clear hK14 K14
    refine blkQ_n (thenQ_n ?_)
    refine hK11 _ _ ?_
    try clear hK11 K11
    refine AWp.rk fun K15 hK15 => ?_
    try simp only [go_sem, fb1, fb2, kidsD_get t k _ hlt, fb13, ft1]
    (repeat (with_reducible refine And.intro ?_ ?_; (first | omega | (intro _; omega) | decide)))
    refine hK15 _ _ ?_
    try clear hK15 K15
    refine thenQ_n ?_
    refine ⟨_, 1, 0, ?_, k + 1, t1, by omega, rfl, ?_, rfl⟩
    · omega
    · rw [← kidsD_snoc t k hlt]; rfl
  · skip
    refine AWp.exit ?_
    refine thenQ_e (thenQ_e (blkQ_e (thenQ_n ?_)))
    refine hK7 _ _ ?_
    try clear hK7 K7
    refine AWp.rs fun K16 hK16 => ?_
    try simp only [go_sem, fb1, fb2]
    (repeat (with_reducible refine And.intro ?_ ?_; (first | omega | (intro _; omega) | decide)))
    refine hK16 _ _ ?_
    try clear hK16 K16
    refine AWp.rs fun K17 hK17 => ?_
    try simp only [go_sem, fb1, fb2]
    (repeat (with_reducible refine And.intro ?_ ?_; (first | omega | (intro _; omega) | decide)))
    refine hK17 _ _ ?_
    try clear hK17 K17
    refine AWp.ret ?_
    try simp only [go_sem, fb1, fb2]
    exact kidsD_all t k (by simp at hc0; omega)
theorem tests_c (T : Tbl) (t : Tst) (ok : t.Ok) : PC Tryd.prog T 107 [.agg (tstA t)] (.agg (tstA t)) := by
  induction t using Tst.ind with
  | h t ih => exact tests_step T t ok fun x hx => ih x hx (ok.inv.2.2.2 x hx)
set_option maxRecDepth 4000 in
set_option maxHeartbeats 1000000 in
theorem sameTexts_c (T : Tbl) (a b : List (List UInt8)) : PC Tryd.prog T 40 [.d (strs a), .d (strs b)] (.d (.bool (decide (a = b)))) := by
  refine ⟨Tryd.call40, PCall.enter Tryd.func40 rfl Tryd.ntmps40 fun hb => ?_⟩
  have ha : a.length ≤ 9223372036854775807 := by
    have := (DB.slc_inv (hb _ (List.mem_cons_self ..))).1
    rw [List.length_map] at this
    exact this
  try simp only [go_sem, Tryd.results40]
  refine AWp.rs fun K1 hK1 => ?_
  try simp only [go_sem]
  (repeat (with_reducible refine And.intro ?_ ?_; (first | omega | (intro _; omega) | decide)))
  refine hK1 _ _ ?_
  try clear hK1 K1
  refine AWp.seq fun K2 hK2 => ?_
  refine AWp.rs fun K3 hK3 => ?_
  try simp only [go_sem]
  (repeat (with_reducible refine And.intro ?_ ?_; (first | omega | (intro _; omega) | decide)))
  refine hK3 _ _ ?_
  try clear hK3 K3
  refine AWp.cond _ rfl (fun hc0 => ?_) (fun hc0 => ?_)
  · skip
    refine AWp.rs fun K4 hK4 => ?_
    try simp only [go_sem]
    (repeat (with_reducible refine And.intro ?_ ?_; (first | omega | (intro _; omega) | decide)))
    refine hK4 _ _ ?_
    try clear hK4 K4
    refine AWp.ret ?_
    try simp only [go_sem]
    rw [eq_comm, decide_eq_false_iff_not]
    rintro rfl
    simp at hc0
  · skip
    have hlen : a.length = b.length := by simp at hc0; omega
    refine AWp.skip ?_
    refine thenQ_n ?_
    refine hK2 _ _ ?_
    try clear hK2 K2
    refine AWp.seq fun K5 hK5 => ?_
    refine AWp.rs fun K6 hK6 => ?_
    try simp only [go_sem]
    (repeat (with_reducible refine And.intro ?_ ?_; (first | omega | (intro _; omega) | decide)))
    refine hK6 _ _ ?_
    try clear hK6 K6
    refine AWp.block ?_
    refine AWp.loop [0, 1, 4, 5] (fun n s h => ∃ k : Nat, k ≤ a.length ∧ a.take k = b.take k ∧ n = a.length - k ∧ s = [.d (strs a), .d (strs b), .any, .any, .d (.bool false), .d (.int .i64 k), .any, .any, .any, .any, .any, .any, .any, .any, .any, .any, .any, .any, .any, .any, .any, .any, .any, .any, .any, .any] ∧ h = ⟨[], []⟩) ⟨_, 0, Nat.zero_le _, rfl, rfl, rfl, rfl⟩ ?_
    rintro n s h ⟨k, hk, htk, rfl, rfl, rfl⟩
    refine AWp.seq fun K7 hK7 => ?_
    refine AWp.rs fun K8 hK8 => ?_
    try simp only [go_sem]
    (repeat (with_reducible refine And.intro ?_ ?_; (first | omega | (intro _; omega) | decide)))
    refine hK8 _ _ ?_
    try clear hK8 K8
    refine AWp.cond _ rfl (fun hc1 => ?_) (fun hc1 => ?_)
    · skip
      have hlt : k < a.length := by simpa using hc1
      have hlt2 : k < b.length := by omega
      refine AWp.skip ?_
      refine thenQ_n ?_
      refine hK7 _ _ ?_
      try clear hK7 K7
      refine AWp.seq fun K9 hK9 => ?_
      refine AWp.block ?_
      refine AWp.ds true [0, 1, 2, 3, 4, 5, 6, 7, 8] rfl (by kernel_rfl) fun K10 hK10 => ?_
      try simp only [go_sem, map_getD strD _ _ _ hlt, map_getD strD _ _ _ hlt2]
      (repeat (with_reducible refine And.intro ?_ ?_; (first | omega | (intro _; omega) | decide)))
      refine hK10 _ _ ?_
      try clear hK10 K10
      refine AWp.cond _ rfl (fun hc2 => ?_) (fun hc2 => ?_)
      · skip
        refine AWp.rs fun K11 hK11 => ?_
        try simp only [go_sem, map_getD strD _ _ _ hlt, map_getD strD _ _ _ hlt2]
        (repeat (with_reducible refine And.intro ?_ ?_; (first | omega | (intro _; omega) | decide)))
        refine hK11 _ _ ?_
        try clear hK11 K11
        refine AWp.ret ?_
        try simp only [go_sem, map_getD strD _ _ _ hlt, map_getD strD _ _ _ hlt2]
        rw [eq_comm, decide_eq_false_iff_not]
        rintro rfl
        simp at hc2
      · skip
        refine AWp.skip ?_
        refine blkQ_n (thenQ_n ?_)
        refine hK9 _ _ ?_
        try clear hK9 K9
        refine AWp.rk fun K12 hK12 => ?_
        try simp only [go_sem, map_getD strD _ _ _ hlt, map_getD strD _ _ _ hlt2]
        (repeat (with_reducible refine And.intro ?_ ?_; (first | omega | (intro _; omega) | decide)))
        refine hK12 _ _ ?_
        try clear hK12 K12
        refine thenQ_n ?_
        have heq : a[k] = b[k] := by simpa using hc2
        refine ⟨_, 0, 0, ?_, k + 1, by omega, ?_, rfl, rfl, rfl⟩
        · omega
        · rw [List.take_succ_eq_append_getElem hlt, List.take_succ_eq_append_getElem hlt2, htk, heq]
    · skip
      refine AWp.exit ?_
      refine thenQ_e (thenQ_e (blkQ_e (thenQ_n ?_)))
      refine hK5 _ _ ?_
      try clear hK5 K5
      refine AWp.rs fun K13 hK13 => ?_
      try simp only [go_sem]
      (repeat (with_reducible refine And.intro ?_ ?_; (first | omega | (intro _; omega) | decide)))
      refine hK13 _ _ ?_
      try clear hK13 K13
      refine AWp.ret ?_
      try simp only [go_sem]
      rw [eq_comm, decide_eq_true_iff]
      have hk2 : k = a.length := by simp at hc1; omega
      subst hk2
      rw [List.take_length, hlen, List.take_length] at htk
      exact htk
theorem sameTexts_r (T : Tbl) (l : List Str) : PC Tryd.prog T 40 [.d (.slc 1 (l.map strD)), .d (.slc 1 (l.map strD))] (.d (.bool true)) := by
  have := sameTexts_c T l l
  rwa [decide_eq_true rfl] at this
set_option maxRecDepth 4000 in
set_option maxHeartbeats 1000000 in
theorem sameTest_step (T : Tbl) (t : Tst) (ok : t.Ok) (ih : ∀ x ∈ t.kids, PC Tryd.prog T 116 [.agg (tstA x), .agg (tstA x)] (.d (.bool true))) : PC Tryd.prog T 116 [.agg (tstA t), .agg (tstA t)] (.d (.bool true)) := by
  refine ⟨Tryd.call116, PCall.enter Tryd.func116 rfl Tryd.ntmps116 fun hb => ?_⟩
  obtain ⟨s1, s2, s3, s4⟩ := ok.inv
  try simp only [go_sem, Tryd.results116]
  refine AWp.rs fun K1 hK1 => ?_
  try simp only [go_sem]
  (repeat (with_reducible refine And.intro ?_ ?_; (first | omega | (intro _; omega) | decide)))
  intro b1 fb1
  try simp only [freshL] at fb1
  try simp only [go_sem, fb1]
  (repeat (with_reducible refine And.intro ?_ ?_; (first | omega | (intro _; omega) | decide)))
  intro b2 fb2
  try simp only [freshL] at fb2
  try simp only [go_sem, fb1, fb2]
  (repeat (with_reducible refine And.intro ?_ ?_; (first | omega | (intro _; omega) | decide)))
  refine hK1 _ _ ?_
  try clear hK1 K1
  refine AWp.seq fun K4 hK4 => ?_
  refine AWp.rs fun K5 hK5 => ?_
  try simp only [go_sem, fb1, fb2]
  (repeat (with_reducible refine And.intro ?_ ?_; (first | omega | (intro _; omega) | decide)))
  refine DW.pcgr rfl rfl rfl rfl rfl (fun hg => sameTexts_r T _) (fun hg => by simp only [go_sem, fb1, fb2]; (try exact hg)) rfl rfl ?_
  try simp only [go_sem, fb1, fb2]
  (repeat (with_reducible refine And.intro ?_ ?_; (first | omega | (intro _; omega) | decide)))
  refine DW.pcgr rfl rfl rfl rfl rfl (fun hg => sameTexts_r T _) (fun hg => by simp only [go_sem, fb1, fb2]; (try exact hg)) rfl rfl ?_
  try simp only [go_sem, fb1, fb2]
  (repeat (with_reducible refine And.intro ?_ ?_; (first | omega | (intro _; omega) | decide)))
  refine hK5 _ _ ?_
  try clear hK5 K5
  refine AWp.cond _ rfl (fun hc0 => ?_) (fun hc0 => ?_)
  · skip
    simp at hc0
  · skip
    refine AWp.skip ?_
    refine thenQ_n ?_
    refine hK4 _ _ ?_
    try clear hK4 K4
    refine AWp.seq fun K6 hK6 => ?_
    refine AWp.rs fun K7 hK7 => ?_
    try simp only [go_sem, fb1, fb2]
    (repeat (with_reducible refine And.intro ?_ ?_; (first | omega | (intro _; omega) | decide)))
    refine hK7 _ _ ?_
    try clear hK7 K7
    refine AWp.block ?_
    refine AWp.loop [2, 3, 5] (fun n s h => ∃ (k : Nat), k ≤ t.kids.length ∧ n = t.kids.length - k ∧ s = [.any, .any, .ptr b1 8 0 0, .ptr b2 8 0 0, .any, .d (.int .i64 k), .any, .any, .any, .any, .any, .any, .any, .any, .any, .any, .any, .any, .any, .any, .any, .any, .any, .any, .any, .any, .any, .any, .any, .any, .any, .any, .any, .any, .any, .any, .any, .any, .any, .any, .any, .any, .any, .any, .any, .any, .any, .any, .any, .any, .any, .any, .any, .any, .any, .any, .any, .any, .any, .any, .any, .any, .any, .any, .any, .any, .any, .any, .any, .any, .any, .any, .any, .any, .any, .any, .any, .any, .any, .any, .any, .any, .any] ∧ h = ⟨[(b2, ⟨8, 1, [tstA t]⟩), (b1, ⟨8, 1, [tstA t]⟩)], []⟩) ⟨_, 0, Nat.zero_le _, rfl, rfl, rfl⟩ ?_
    rintro n s h ⟨k, hk, rfl, rfl, rfl⟩
    try simp only [go_sem]
    refine AWp.seq fun K8 hK8 => ?_
    refine AWp.rs fun K9 hK9 => ?_
    try simp only [go_sem, fb1, fb2]
    (repeat (with_reducible refine And.intro ?_ ?_; (first | omega | (intro _; omega) | decide)))
    refine hK9 _ _ ?_
    try clear hK9 K9
    refine AWp.cond _ rfl (fun hc1 => ?_) (fun hc1 => ?_)
    · skip
      have hlt : k < t.kids.length := by simpa using hc1
      refine AWp.skip ?_
      refine thenQ_n ?_
      refine hK8 _ _ ?_
      try clear hK8 K8
      refine AWp.seq fun K10 hK10 => ?_
      refine AWp.block ?_
      refine AWp.ds true [0, 1, 2, 3, 4, 5, 6, 7, 8, 9, 10, 11] rfl (by kernel_rfl) fun K11 hK11 => ?_
      try simp only [go_sem, fb1, fb2, kidsD_get t k _ hlt]
      (repeat (with_reducible refine And.intro ?_ ?_; (first | omega | (intro _; omega) | decide)))
      refine DW.pcr rfl rfl rfl rfl (ih _ (List.getElem_mem hlt)) rfl rfl ?_
      try simp only [go_sem, fb1, fb2, kidsD_get t k _ hlt]
      (repeat (with_reducible refine And.intro ?_ ?_; (first | omega | (intro _; omega) | decide)))
      refine hK11 _ _ ?_
      try clear hK11 K11
      refine AWp.cond _ rfl (fun hc2 => ?_) (fun hc2 => ?_)
      · skip
        simp at hc2
      · skip
        refine AWp.skip ?_
        refine blkQ_n (thenQ_n ?_)
        refine hK10 _ _ ?_
        try clear hK10 K10
        refine AWp.rk fun K12 hK12 => ?_
        try simp only [go_sem, fb1, fb2, kidsD_get t k _ hlt]
        (repeat (with_reducible refine And.intro ?_ ?_; (first | omega | (intro _; omega) | decide)))
        refine hK12 _ _ ?_
        try clear hK12 K12
        refine thenQ_n ?_
        refine ⟨_, 0, 0, ?_, k + 1, by omega, rfl, rfl, rfl⟩
        omega
    · skip
      refine AWp.exit ?_
      refine thenQ_e (thenQ_e (blkQ_e (thenQ_n ?_)))
      refine hK6 _ _ ?_
      try clear hK6 K6
      refine AWp.rs fun K13 hK13 => ?_
      try simp only [go_sem, fb1, fb2]
      (repeat (with_reducible refine And.intro ?_ ?_; (first | omega | (intro _; omega) | decide)))
      refine hK13 _ _ ?_
      try clear hK13 K13
      refine AWp.ret ?_
      try simp only [go_sem, fb1, fb2]
      all_goals done
theorem sameTest_c (T : Tbl) (t : Tst) (ok : t.Ok) : PC Tryd.prog T 116 [.agg (tstA t), .agg (tstA t)] (.d (.bool true)) := by
  induction t using Tst.ind with
  | h t ih => exact sameTest_step T t ok fun x hx => ih x hx (ok.inv.2.2.2 x hx)
set_option maxRecDepth 4000 in
set_option maxHeartbeats 1000000 in
theorem commands_step (T : Tbl) (l : List Cmd) (hl : l.length * 208 ≤ 140737488355328) (ih : ∀ x ∈ l, PC Tryd.prog T 55 [.agg (cmdA x)] (.agg (cmdA x))) : PC Tryd.prog T 15 [.d (.slc 12 (l.map cmdD))] (.d (.slc 12 (l.map cmdD))) := by
  refine ⟨Tryd.call15, PCall.enter Tryd.func15 rfl Tryd.ntmps15 fun hb => ?_⟩
  try simp only [go_sem, Tryd.results15]
  refine AWp.rs fun K1 hK1 => ?_
  try simp only [go_sem]
  (repeat (with_reducible refine And.intro ?_ ?_; (first | omega | (intro _; omega) | decide)))
  refine hK1 _ _ ?_
  try clear hK1 K1
  refine AWp.rs fun K2 hK2 => ?_
  try simp only [go_sem]
  (repeat (with_reducible refine And.intro ?_ ?_; (first | omega | (intro _; omega) | decide)))
  refine hK2 _ _ ?_
  try clear hK2 K2
  refine AWp.seq fun K3 hK3 => ?_
  refine AWp.rs fun K4 hK4 => ?_
  try simp only [go_sem]
  (repeat (with_reducible refine And.intro ?_ ?_; (first | omega | (intro _; omega) | decide)))
  refine hK4 _ _ ?_
  try clear hK4 K4
  refine AWp.block ?_
  refine AWp.ownNil 3 12 rfl (by decide) fun u => ?_
  try simp only [go_sem]
  refine AWp.loop [0, 3, 4] (fun n s h => ∃ (k u : Nat), k ≤ l.length ∧ n = l.length - k ∧ s = [.d (.slc 12 (l.map cmdD)), .any, .any, .own u 12 ((l.map cmdD).take k), .d (.int .i64 k), .any, .any, .any, .any, .any, .any, .any, .any, .any, .any, .any, .any, .any, .any, .any, .any, .any] ∧ h = ⟨[], [u]⟩) ⟨_, 0, _, Nat.zero_le _, rfl, rfl, by simp only [go_sem]⟩ ?_
  rintro n s h ⟨k, u, hk, rfl, rfl, rfl⟩
  try simp only [go_sem]
  refine AWp.seq fun K5 hK5 => ?_
  refine AWp.rs fun K6 hK6 => ?_
  try simp only [go_sem]
  (repeat (with_reducible refine And.intro ?_ ?_; (first | omega | (intro _; omega) | decide)))
  refine hK6 _ _ ?_
  try clear hK6 K6
  refine AWp.cond _ rfl (fun hc0 => ?_) (fun hc0 => ?_)
  · skip
    have hlt : k < l.length := by simpa using hc0
    refine AWp.skip ?_
    refine thenQ_n ?_
    refine hK5 _ _ ?_
    try clear hK5 K5
    refine AWp.seq fun K7 hK7 => ?_
    refine AWp.block ?_
    refine AWp.rs fun K8 hK8 => ?_
    try simp only [go_sem, map_getD cmdD _ _ _ hlt]
    (repeat (with_reducible refine And.intro ?_ ?_; (first | omega | (intro _; omega) | decide)))
    refine DW.pcr rfl rfl rfl rfl (ih _ (List.getElem_mem hlt)) rfl rfl ?_
    try simp only [go_sem, map_getD cmdD _ _ _ hlt]
    (repeat (with_reducible refine And.intro ?_ ?_; (first | omega | (intro _; omega) | decide)))
    intro b9 fb9
    try simp only [freshL] at fb9
    try simp only [go_sem, map_getD cmdD _ _ _ hlt, fb9]
    (repeat (with_reducible refine And.intro ?_ ?_; (first | omega | (intro _; omega) | decide)))
    refine hK8 _ _ ?_
    try clear hK8 K8
    refine AWp.rk fun K10 hK10 => ?_
    try simp only [go_sem, map_getD cmdD _ _ _ hlt, fb9]
    (repeat (with_reducible refine And.intro ?_ ?_; (first | omega | (intro _; omega) | decide)))
    refine DW.app rfl rfl rfl rfl (show slI Tryd.prog 22 = some (98, 12, 192) by simp only [go_sem]) rfl rfl (by simp only [go_sem, map_getD cmdD _ _ _ hlt, fb9]) (by first | exact .inl rfl | exact .inr rfl) (by first | omega | (simp only [go_sem]; omega) | (simp only [go_sem, List.length_take, List.length_map]; omega)) (by first | omega | (simp only [go_sem]; omega) | (simp only [go_sem, List.length_take, List.length_map]; omega)) fun t1 ft1 => ?_
    try simp only [freshT] at ft1
    try simp only [go_sem, map_getD cmdD _ _ _ hlt, fb9, ft1]
    (repeat (with_reducible refine And.intro ?_ ?_; (first | omega | (intro _; omega) | decide)))
    refine hK10 _ _ ?_
    try clear hK10 K10
    refine blkQ_n (thenQ_n ?_)
    refine hK7 _ _ ?_
    try clear hK7 K7
    refine AWp.rk fun K11 hK11 => ?_
    try simp only [go_sem, map_getD cmdD _ _ _ hlt, fb9, ft1]
    (repeat (with_reducible refine And.intro ?_ ?_; (first | omega | (intro _; omega) | decide)))
    refine hK11 _ _ ?_
    try clear hK11 K11
    refine thenQ_n ?_
    refine ⟨_, 1, 0, ?_, k + 1, t1, by omega, rfl, ?_, rfl⟩
    · omega
    · rw [← map_snoc cmdD l k hlt]; rfl
  · skip
    refine AWp.exit ?_
    refine thenQ_e (thenQ_e (blkQ_e (thenQ_n ?_)))
    refine hK3 _ _ ?_
    try clear hK3 K3
    refine AWp.rs fun K12 hK12 => ?_
    try simp only [go_sem]
    (repeat (with_reducible refine And.intro ?_ ?_; (first | omega | (intro _; omega) | decide)))
    refine hK12 _ _ ?_
    try clear hK12 K12
    refine AWp.ret ?_
    try simp only [go_sem]
    exact map_all cmdD l k (by simp at hc0; omega)
set_option maxRecDepth 4000 in
set_option maxHeartbeats 1000000 in
theorem command_step (T : Tbl) (c : Cmd) (ok : c.Ok) (i1 : PC Tryd.prog T 15 [.d (.slc 12 (thnD c))] (.d (.slc 12 (thnD c)))) (i2 : PC Tryd.prog T 15 [.d (.slc 12 (elsD c))] (.d (.slc 12 (elsD c)))) : PC Tryd.prog T 55 [.agg (cmdA c)] (.agg (cmdA c)) := by
  refine ⟨Tryd.call55, PCall.enter Tryd.func55 rfl Tryd.ntmps55 fun hb => ?_⟩
  obtain ⟨s1, s2, s3, s4, s5, s6⟩ := ok.inv
  try simp only [go_sem, Tryd.results55]
  refine AWp.rs fun K1 hK1 => ?_
  try simp only [go_sem]
  (repeat (with_reducible refine And.intro ?_ ?_; (first | omega | (intro _; omega) | decide)))
  intro b1 fb1
  try simp only [freshL] at fb1
  try simp only [go_sem, fb1]
  (repeat (with_reducible refine And.intro ?_ ?_; (first | omega | (intro _; omega) | decide)))
  intro b2 fb2
  try simp only [freshL] at fb2
  try simp only [go_sem, fb1, fb2]
  (repeat (with_reducible refine And.intro ?_ ?_; (first | omega | (intro _; omega) | decide)))
  refine hK1 _ _ ?_
  try clear hK1 K1
  refine AWp.ds true [0, 1, 2, 3, 4, 5, 6, 7, 8, 9, 10, 11, 12, 13, 14, 15] rfl (by kernel_rfl) fun K4 hK4 => ?_
  try simp only [go_sem, fb1, fb2]
  (repeat (with_reducible refine And.intro ?_ ?_; (first | omega | (intro _; omega) | decide)))
  refine DW.pcr rfl rfl rfl rfl (texts_c T _ (by omega)) rfl rfl ?_
  try simp only [go_sem, fb1, fb2]
  (repeat (with_reducible refine And.intro ?_ ?_; (first | omega | (intro _; omega) | decide)))
  refine DW.pcr rfl rfl rfl rfl (tests_c T _ (by assumption)) rfl rfl ?_
  try simp only [go_sem, fb1, fb2]
  (repeat (with_reducible refine And.intro ?_ ?_; (first | omega | (intro _; omega) | decide)))
  refine DW.pcr rfl rfl rfl rfl (i1) rfl rfl ?_
  try simp only [go_sem, fb1, fb2]
  (repeat (with_reducible refine And.intro ?_ ?_; (first | omega | (intro _; omega) | decide)))
  refine DW.pcr rfl rfl rfl rfl (i2) rfl rfl ?_
  try simp only [go_sem, fb1, fb2]
  (repeat (with_reducible refine And.intro ?_ ?_; (first | omega | (intro _; omega) | decide)))
  refine hK4 _ _ ?_
  try clear hK4 K4
  refine AWp.ret ?_
  try simp only [go_sem, fb1, fb2]
  skip
theorem command_c (T : Tbl) (c : Cmd) (ok : c.Ok) : PC Tryd.prog T 55 [.agg (cmdA c)] (.agg (cmdA c)) := by
  induction c using Cmd.ind with
  | h c i1 i2 =>
    obtain ⟨s1, s2, s3, s4, s5, s6⟩ := ok.inv
    refine command_step T c ok ?_ ?_
    · rw [thnD_eq]; exact commands_step T _ s3 fun x hx => i1 x hx (s5 x hx)
    · rw [elsD_eq]; exact commands_step T _ s4 fun x hx => i2 x hx (s6 x hx)
theorem commands_c (T : Tbl) (l : List Cmd) (hl : l.length * 208 ≤ 140737488355328) (ok : ∀ x ∈ l, x.Ok) : PC Tryd.prog T 15 [.d (.slc 12 (l.map cmdD))] (.d (.slc 12 (l.map cmdD))) := commands_step T l hl fun x hx => command_c T x (ok x hx)
set_option maxRecDepth 4000 in
set_option maxHeartbeats 1000000 in
theorem sameCommands_step (T : Tbl) (l : List Cmd) (hl : l.length * 208 ≤ 140737488355328) (ih : ∀ x ∈ l, PC Tryd.prog T 60 [.agg (cmdA x), .agg (cmdA x)] (.d (.bool true))) : PC Tryd.prog T 18 [.d (.slc 12 (l.map cmdD)), .d (.slc 12 (l.map cmdD))] (.d (.bool true)) := by
  refine ⟨Tryd.call18, PCall.enter Tryd.func18 rfl Tryd.ntmps18 fun hb => ?_⟩
  try simp only [go_sem, Tryd.results18]
  refine AWp.rs fun K1 hK1 => ?_
  try simp only [go_sem]
  (repeat (with_reducible refine And.intro ?_ ?_; (first | omega | (intro _; omega) | decide)))
  refine hK1 _ _ ?_
  try clear hK1 K1
  refine AWp.seq fun K2 hK2 => ?_
  refine AWp.rs fun K3 hK3 => ?_
  try simp only [go_sem]
  (repeat (with_reducible refine And.intro ?_ ?_; (first | omega | (intro _; omega) | decide)))
  refine hK3 _ _ ?_
  try clear hK3 K3
  refine AWp.cond _ rfl (fun hc0 => ?_) (fun hc0 => ?_)
  · skip
    simp at hc0
  · skip
    refine AWp.skip ?_
    refine thenQ_n ?_
    refine hK2 _ _ ?_
    try clear hK2 K2
    refine AWp.seq fun K4 hK4 => ?_
    refine AWp.rs fun K5 hK5 => ?_
    try simp only [go_sem]
    (repeat (with_reducible refine And.intro ?_ ?_; (first | omega | (intro _; omega) | decide)))
    refine hK5 _ _ ?_
    try clear hK5 K5
    refine AWp.block ?_
    refine AWp.loop [0, 1, 5] (fun n s h => ∃ (k : Nat), k ≤ l.length ∧ n = l.length - k ∧ s = [.d (.slc 12 (l.map cmdD)), .d (.slc 12 (l.map cmdD)), .any, .any, .any, .d (.int .i64 k), .any, .any, .any, .any, .any, .any, .any, .any, .any, .any, .any, .any, .any, .any, .any, .any, .any, .any, .any, .any, .any] ∧ h = ⟨[], []⟩) ⟨_, 0, Nat.zero_le _, rfl, rfl, rfl⟩ ?_
    rintro n s h ⟨k, hk, rfl, rfl, rfl⟩
    try simp only [go_sem]
    refine AWp.seq fun K6 hK6 => ?_
    refine AWp.rs fun K7 hK7 => ?_
    try simp only [go_sem]
    (repeat (with_reducible refine And.intro ?_ ?_; (first | omega | (intro _; omega) | decide)))
    refine hK7 _ _ ?_
    try clear hK7 K7
    refine AWp.cond _ rfl (fun hc1 => ?_) (fun hc1 => ?_)
    · skip
      have hlt : k < l.length := by simpa using hc1
      refine AWp.skip ?_
      refine thenQ_n ?_
      refine hK6 _ _ ?_
      try clear hK6 K6
      refine AWp.seq fun K8 hK8 => ?_
      refine AWp.block ?_
      refine AWp.ds true [0, 1, 2, 3, 4, 5, 6, 7, 8, 9] rfl (by kernel_rfl) fun K9 hK9 => ?_
      try simp only [go_sem, map_getD cmdD _ _ _ hlt]
      (repeat (with_reducible refine And.intro ?_ ?_; (first | omega | (intro _; omega) | decide)))
      refine DW.pcr rfl rfl rfl rfl (ih _ (List.getElem_mem hlt)) rfl rfl ?_
      try simp only [go_sem, map_getD cmdD _ _ _ hlt]
      (repeat (with_reducible refine And.intro ?_ ?_; (first | omega | (intro _; omega) | decide)))
      refine hK9 _ _ ?_
      try clear hK9 K9
      refine AWp.cond _ rfl (fun hc2 => ?_) (fun hc2 => ?_)
      · skip
        simp at hc2
      · skip
        refine AWp.skip ?_
        refine blkQ_n (thenQ_n ?_)
        refine hK8 _ _ ?_
        try clear hK8 K8
        refine AWp.rk fun K10 hK10 => ?_
        try simp only [go_sem, map_getD cmdD _ _ _ hlt]
        (repeat (with_reducible refine And.intro ?_ ?_; (first | omega | (intro _; omega) | decide)))
        refine hK10 _ _ ?_
        try clear hK10 K10
        refine thenQ_n ?_
        refine ⟨_, 0, 0, ?_, k + 1, by omega, rfl, rfl, rfl⟩
        omega
    · skip
      refine AWp.exit ?_
      refine thenQ_e (thenQ_e (blkQ_e (thenQ_n ?_)))
      refine hK4 _ _ ?_
      try clear hK4 K4
      refine AWp.rs fun K11 hK11 => ?_
      try simp only [go_sem]
      (repeat (with_reducible refine And.intro ?_ ?_; (first | omega | (intro _; omega) | decide)))
      refine hK11 _ _ ?_
      try clear hK11 K11
      refine AWp.ret ?_
      try simp only [go_sem]
      all_goals done
set_option maxRecDepth 4000 in
set_option maxHeartbeats 1000000 in
theorem sameCommand_step (T : Tbl) (c : Cmd) (ok : c.Ok) (i1 : PC Tryd.prog T 18 [.d (.slc 12 (thnD c)), .d (.slc 12 (thnD c))] (.d (.bool true))) (i2 : PC Tryd.prog T 18 [.d (.slc 12 (elsD c)), .d (.slc 12 (elsD c))] (.d (.bool true))) : PC Tryd.prog T 60 [.agg (cmdA c), .agg (cmdA c)] (.d (.bool true)) := by
  refine ⟨Tryd.call60, PCall.enter Tryd.func60 rfl Tryd.ntmps60 fun hb => ?_⟩
  obtain ⟨s1, s2, s3, s4, s5, s6⟩ := ok.inv
  try simp only [go_sem, Tryd.results60]
  refine AWp.rs fun K1 hK1 => ?_
  try simp only [go_sem]
  (repeat (with_reducible refine And.intro ?_ ?_; (first | omega | (intro _; omega) | decide)))
  intro b1 fb1
  try simp only [freshL] at fb1
  try simp only [go_sem, fb1]
  (repeat (with_reducible refine And.intro ?_ ?_; (first | omega | (intro _; omega) | decide)))
  intro b2 fb2
  try simp only [freshL] at fb2
  try simp only [go_sem, fb1, fb2]
  (repeat (with_reducible refine And.intro ?_ ?_; (first | omega | (intro _; omega) | decide)))
  refine hK1 _ _ ?_
  try clear hK1 K1
  refine AWp.rs fun K4 hK4 => ?_
  try simp only [go_sem, fb1, fb2]
  (repeat (with_reducible refine And.intro ?_ ?_; (first | omega | (intro _; omega) | decide)))
  refine DW.pcgr rfl rfl rfl rfl rfl (fun hg => sameTexts_r T _) (fun hg => by simp only [go_sem, fb1, fb2]; (try exact hg)) rfl rfl ?_
  try simp only [go_sem, fb1, fb2]
  (repeat (with_reducible refine And.intro ?_ ?_; (first | omega | (intro _; omega) | decide)))
  refine DW.pcgr rfl rfl rfl rfl rfl (fun hg => sameTest_c T _ (by assumption)) (fun hg => by simp only [go_sem, fb1, fb2]; (try exact hg)) rfl rfl ?_
  try simp only [go_sem, fb1, fb2]
  (repeat (with_reducible refine And.intro ?_ ?_; (first | omega | (intro _; omega) | decide)))
  refine DW.pcgr rfl rfl rfl rfl rfl (fun hg => i1) (fun hg => by simp only [go_sem, fb1, fb2]; (try exact hg)) rfl rfl ?_
  try simp only [go_sem, fb1, fb2]
  (repeat (with_reducible refine And.intro ?_ ?_; (first | omega | (intro _; omega) | decide)))
  refine DW.pcgr rfl rfl rfl rfl rfl (fun hg => i2) (fun hg => by simp only [go_sem, fb1, fb2]; (try exact hg)) rfl rfl ?_
  try simp only [go_sem, fb1, fb2]
  (repeat (with_reducible refine And.intro ?_ ?_; (first | omega | (intro _; omega) | decide)))
  refine hK4 _ _ ?_
  try clear hK4 K4
  refine AWp.ret ?_
  try simp only [go_sem, fb1, fb2]
  all_goals simp
theorem sameCommand_c (T : Tbl) (c : Cmd) (ok : c.Ok) : PC Tryd.prog T 60 [.agg (cmdA c), .agg (cmdA c)] (.d (.bool true)) := by
  induction c using Cmd.ind with
  | h c i1 i2 =>
    obtain ⟨s1, s2, s3, s4, s5, s6⟩ := ok.inv
    refine sameCommand_step T c ok ?_ ?_
    · rw [thnD_eq]; exact sameCommands_step T _ s3 fun x hx => i1 x hx (s5 x hx)
    · rw [elsD_eq]; exact sameCommands_step T _ s4 fun x hx => i2 x hx (s6 x hx)
theorem sameCommands_c (T : Tbl) (l : List Cmd) (hl : l.length * 208 ≤ 140737488355328) (ok : ∀ x ∈ l, x.Ok) : PC Tryd.prog T 18 [.d (.slc 12 (l.map cmdD)), .d (.slc 12 (l.map cmdD))] (.d (.bool true)) := sameCommands_step T l hl fun x hx => sameCommand_c T x (ok x hx)
end Go.Proofs.YtnoboapafndnlaaDoor

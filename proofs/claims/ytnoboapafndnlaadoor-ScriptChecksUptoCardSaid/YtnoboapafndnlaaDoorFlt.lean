/- Faults. -/
import Derived.Test.YtnoboapafndnlaaDoorAvTy
import Derived.Test.YtnoboapafndnlaaDoorFault
namespace Go.Proofs.YtnoboapafndnlaaDoor
set_option linter.unusedSimpArgs false
set_option linter.unusedVariables false
set_option maxRecDepth 4000 in
set_option maxHeartbeats 1000000 in
theorem in_c (T : Tbl) (n lo hi : Int) : PC Tryd.prog T 70 [.d (.int .i64 n), .d (.int .i64 lo), .d (.int .i64 hi)] (.d (.bool (inB n lo hi))) := by
  refine ⟨Tryd.call70, PCall.enter Tryd.func70 rfl Tryd.ntmps70 fun hb => ?_⟩
  try simp only [go_sem, Tryd.results70]
  refine AWp.rs fun K1 hK1 => ?_
  try simp only [go_sem]
  (repeat (with_reducible refine And.intro ?_ ?_; (first | omega | (intro _; omega) | decide | (intro hg; refine ⟨hg, ?_⟩; omega) | grind)))
  refine hK1 _ _ ?_
  try clear hK1 K1
  refine AWp.rs fun K2 hK2 => ?_
  try simp only [go_sem]
  (repeat (with_reducible refine And.intro ?_ ?_; (first | omega | (intro _; omega) | decide | (intro hg; refine ⟨hg, ?_⟩; omega) | grind)))
  refine hK2 _ _ ?_
  try clear hK2 K2
  refine AWp.ret ?_
  try simp only [go_sem]
  all_goals rfl
set_option maxRecDepth 4000 in
set_option maxHeartbeats 1000000 in
theorem testBare_c (T : Tbl) (t : Tst) (n k m p u l : Bool) : PC Tryd.prog T 177 [.agg (tstA t), .d (.bool n), .d (.bool k), .d (.bool m), .d (.bool p), .d (.bool u), .d (.bool l)] (.d (.bool (bareB t n k m p u l))) := by
  refine ⟨Tryd.call177, PCall.enter Tryd.func177 rfl Tryd.ntmps177 fun hb => ?_⟩
  try simp only [go_sem, Tryd.results177]
  refine AWp.rs fun K1 hK1 => ?_
  try simp only [go_sem]
  (repeat (with_reducible refine And.intro ?_ ?_; (first | omega | (intro _; omega) | decide | (intro hg; refine ⟨hg, ?_⟩; omega) | grind)))
  intro b1 fb1
  try simp only [freshL] at fb1
  try simp only [go_sem, fb1]
  (repeat (with_reducible refine And.intro ?_ ?_; (first | omega | (intro _; omega) | decide | (intro hg; refine ⟨hg, ?_⟩; omega) | grind)))
  refine hK1 _ _ ?_
  try clear hK1 K1
  refine AWp.seq fun K3 hK3 => ?_
  refine AWp.rs fun K4 hK4 => ?_
  try simp only [go_sem, fb1]
  (repeat (with_reducible refine And.intro ?_ ?_; (first | omega | (intro _; omega) | decide | (intro hg; refine ⟨hg, ?_⟩; omega) | grind)))
  refine hK4 _ _ ?_
  try clear hK4 K4
  refine AWp.cond _ rfl (fun hc0 => ?_) (fun hc0 => ?_)
  · skip
    refine AWp.rs fun K5 hK5 => ?_
    try simp only [go_sem, fb1]
    (repeat (with_reducible refine And.intro ?_ ?_; (first | omega | (intro _; omega) | decide | (intro hg; refine ⟨hg, ?_⟩; omega) | grind)))
    refine hK5 _ _ ?_
    try clear hK5 K5
    refine AWp.ret ?_
    try simp only [go_sem, fb1]
    all_goals grind [bareB]
  · skip
    refine AWp.skip ?_
    refine thenQ_n ?_
    refine hK3 _ _ ?_
    try clear hK3 K3
    refine AWp.rs fun K6 hK6 => ?_
    try simp only [go_sem, fb1]
    (repeat (with_reducible refine And.intro ?_ ?_; (first | omega | (intro _; omega) | decide | (intro hg; refine ⟨hg, ?_⟩; omega) | grind)))
    refine hK6 _ _ ?_
    try clear hK6 K6
    refine AWp.ret ?_
    try simp only [go_sem, fb1]
    all_goals grind [bareB]
set_option maxRecDepth 4000 in
set_option maxHeartbeats 1000000 in
theorem bare_c (T : Tbl) (t : Tst) (ok : t.Ok) : PC Tryd.prog T 173 [.agg (tstA t)] (.d (.bool (decide (t.kind = 0) && bareB t false false false false false false))) := by
  refine ⟨Tryd.call173, PCall.enter Tryd.func173 rfl Tryd.ntmps173 fun hb => ?_⟩
  obtain ⟨s1, s2, s3, s4⟩ := ok.inv
  try simp only [go_sem, Tryd.results173]
  refine AWp.rs fun K1 hK1 => ?_
  try simp only [go_sem]
  (repeat (with_reducible refine And.intro ?_ ?_; (first | omega | (intro _; omega) | decide | (intro hg; refine ⟨hg, ?_⟩; omega) | grind)))
  intro b1 fb1
  try simp only [freshL] at fb1
  try simp only [go_sem, fb1]
  (repeat (with_reducible refine And.intro ?_ ?_; (first | omega | (intro _; omega) | decide | (intro hg; refine ⟨hg, ?_⟩; omega) | grind)))
  refine hK1 _ _ ?_
  try clear hK1 K1
  refine AWp.rs fun K3 hK3 => ?_
  try simp only [go_sem, fb1]
  (repeat (with_reducible refine And.intro ?_ ?_; (first | omega | (intro _; omega) | decide | (intro hg; refine ⟨hg, ?_⟩; omega) | grind)))
  refine hK3 _ _ ?_
  try clear hK3 K3
  refine AWp.ret ?_
  try simp only [go_sem, fb1]
  all_goals grind [bareB]
theorem tF_in (t : Tst) (d : Int) : 0 ≤ tF t d ∧ tF t d ≤ 3 := by
  induction t using Tst.ind generalizing d with
  | h t ih =>
    have hl : ∀ l : List Tst, (∀ x ∈ l, ∀ d, 0 ≤ tF x d ∧ tF x d ≤ 3) → ∀ d, 0 ≤ tFL l d ∧ tFL l d ≤ 3 := fun l => by
      induction l with
      | nil => intro _ d; rw [tFL]; omega
      | cons x l il =>
        intro h d
        rw [tFL]
        have := h x (List.mem_cons_self ..) d
        have := il (fun y hy => h y (List.mem_cons_of_mem _ hy)) d
        split <;> omega
    rw [tF_eq]
    have := hl t.kids ih (d + 1)
    split
    · omega
    · split
      · omega
      · split <;> omega
set_option maxRecDepth 4000 in
set_option maxHeartbeats 1000000 in
theorem testFault_step (T : Tbl) (t : Tst) (ok : t.Ok) (d : Int) (hd : -9 ≤ d) (hd2 : d ≤ 7) (ih : ∀ x ∈ t.kids, ∀ d : Int, -9 ≤ d → d ≤ 7 → PC Tryd.prog T 178 [.agg (tstA x), .d (.int .i64 d)] (.d (.int .i64 (tF x d)))) : PC Tryd.prog T 178 [.agg (tstA t), .d (.int .i64 d)] (.d (.int .i64 (tF t d))) := by
  refine ⟨Tryd.call178, PCall.enter Tryd.func178 rfl Tryd.ntmps178 fun hb => ?_⟩
  obtain ⟨s1, s2, s3, s4⟩ := ok.inv
  try simp only [go_sem, Tryd.results178]
  refine AWp.rs fun K1 hK1 => ?_
  try simp only [go_sem]
  (repeat (with_reducible refine And.intro ?_ ?_; (first | omega | (intro _; omega) | decide | (intro hg; refine ⟨hg, ?_⟩; omega) | grind)))
  intro b1 fb1
  try simp only [freshL] at fb1
  try simp only [go_sem, fb1]
  (repeat (with_reducible refine And.intro ?_ ?_; (first | omega | (intro _; omega) | decide | (intro hg; refine ⟨hg, ?_⟩; omega) | grind)))
  refine hK1 _ _ ?_
  try clear hK1 K1
  refine AWp.seq fun K3 hK3 => ?_
  refine AWp.rs fun K4 hK4 => ?_
  try simp only [go_sem, fb1]
  (repeat (with_reducible refine And.intro ?_ ?_; (first | omega | (intro _; omega) | decide | (intro hg; refine ⟨hg, ?_⟩; omega) | grind)))
  refine DW.pcr rfl rfl rfl rfl (in_c T _ _ _) rfl rfl ?_
  try simp only [go_sem, fb1]
  (repeat (with_reducible refine And.intro ?_ ?_; (first | omega | (intro _; omega) | decide | (intro hg; refine ⟨hg, ?_⟩; omega) | grind)))
  refine hK4 _ _ ?_
  try clear hK4 K4
  refine AWp.cond _ rfl (fun hc0 => ?_) (fun hc0 => ?_)
  · skip
    refine AWp.rs fun K5 hK5 => ?_
    try simp only [go_sem, fb1]
    (repeat (with_reducible refine And.intro ?_ ?_; (first | omega | (intro _; omega) | decide | (intro hg; refine ⟨hg, ?_⟩; omega) | grind)))
    refine hK5 _ _ ?_
    try clear hK5 K5
    refine AWp.ret ?_
    try simp only [go_sem, fb1]
    rw [tF_kind]; simpa using hc0
  · skip
    have hk : inB t.kind 1 10 = true := by simpa using hc0
    refine AWp.skip ?_
    refine thenQ_n ?_
    refine hK3 _ _ ?_
    try clear hK3 K3
    refine AWp.seq fun K6 hK6 => ?_
    refine AWp.rs fun K7 hK7 => ?_
    try simp only [go_sem, fb1]
    (repeat (with_reducible refine And.intro ?_ ?_; (first | omega | (intro _; omega) | decide | (intro hg; refine ⟨hg, ?_⟩; omega) | grind)))
    refine hK7 _ _ ?_
    try clear hK7 K7
    refine AWp.cond _ rfl (fun hc1 => ?_) (fun hc1 => ?_)
    · skip
      refine AWp.rs fun K8 hK8 => ?_
      try simp only [go_sem, fb1]
      (repeat (with_reducible refine And.intro ?_ ?_; (first | omega | (intro _; omega) | decide | (intro hg; refine ⟨hg, ?_⟩; omega) | grind)))
      refine hK8 _ _ ?_
      try clear hK8 K8
      refine AWp.ret ?_
      try simp only [go_sem, fb1]
      rw [tF_deep _ _ hk (by simpa using hc1)]
    · skip
      have hd6 : d ≤ 6 := by simpa using hc1
      refine AWp.skip ?_
      refine thenQ_n ?_
      refine hK6 _ _ ?_
      try clear hK6 K6
      refine AWp.rs fun K9 hK9 => ?_
      try simp only [go_sem, fb1]
      (repeat (with_reducible refine And.intro ?_ ?_; (first | omega | (intro _; omega) | decide | (intro hg; refine ⟨hg, ?_⟩; omega) | grind)))
      refine DW.pcr rfl rfl rfl rfl (in_c T _ _ _) rfl rfl ?_
      try simp only [go_sem, fb1]
      (repeat (with_reducible refine And.intro ?_ ?_; (first | omega | (intro _; omega) | decide | (intro hg; refine ⟨hg, ?_⟩; omega) | grind)))
      refine hK9 _ _ ?_
      try clear hK9 K9
      refine AWp.rs fun K10 hK10 => ?_
      try simp only [go_sem, fb1]
      (repeat (with_reducible refine And.intro ?_ ?_; (first | omega | (intro _; omega) | decide | (intro hg; refine ⟨hg, ?_⟩; omega) | grind)))
      refine DW.pcr rfl rfl rfl rfl (in_c T _ _ _) rfl rfl ?_
      try simp only [go_sem, fb1]
      (repeat (with_reducible refine And.intro ?_ ?_; (first | omega | (intro _; omega) | decide | (intro hg; refine ⟨hg, ?_⟩; omega) | grind)))
      refine hK10 _ _ ?_
      try clear hK10 K10
      refine AWp.rs fun K11 hK11 => ?_
      try simp only [go_sem, fb1]
      (repeat (with_reducible refine And.intro ?_ ?_; (first | omega | (intro _; omega) | decide | (intro hg; refine ⟨hg, ?_⟩; omega) | grind)))
      refine DW.pcr rfl rfl rfl rfl (testBare_c T _ _ _ _ _ _ _) rfl rfl ?_
      try simp only [go_sem, fb1]
      (repeat (with_reducible refine And.intro ?_ ?_; (first | omega | (intro _; omega) | decide | (intro hg; refine ⟨hg, ?_⟩; omega) | grind)))
      refine hK11 _ _ ?_
      try clear hK11 K11
      refine AWp.join (fun s h => s = [.any, .d (.int .i64 d), .ptr b1 8 0 0, .any, .any, .d (.bool (inB t.kind 6 8)), .d (.bool (inB t.kind 3 5)), .d (.bool (bareB t (inB t.kind 6 8 || decide (t.kind = 9)) (inB t.kind 6 8) (inB t.kind 6 8) (inB t.kind 6 8 && !decide (t.kind = 6)) (decide (t.kind = 10)) (inB t.kind 3 5) && (!(inB t.kind 6 8 || decide (t.kind = 9)) || decide (0 < t.names.length)))), .any, .any, .any, .any, .any, .any, .any, .any, .any, .any, .any, .any, .any, .any, .any, .any, .any, .any, .any, .any, .any, .any, .any, .any, .any, .any, .any, .any, .any, .any, .any, .any, .any, .any, .any, .any, .any, .any, .any, .any, .any, .any, .any, .any, .any, .any, .any, .any, .any, .any, .any, .any, .any, .any, .any, .any, .any, .any, .any, .any, .any, .any, .any, .any, .any, .any, .any, .any, .any, .any, .any, .any, .any, .any, .any, .any, .any, .any, .any, .any, .any, .any, .any, .any, .any, .any, .any, .any, .any, .any, .any, .any, .any, .any, .any, .any, .any, .any, .any, .any, .any, .any, .any, .any, .any, .any, .any, .any, .any, .any, .any, .any, .any, .any, .any, .any, .any, .any] ∧ h = ⟨[(b1, ⟨8, 1, [tstA t]⟩)], []⟩) ?_ ?_
      · skip
        refine AWp.rs fun K12 hK12 => ?_
        try simp only [go_sem, fb1]
        (repeat (with_reducible refine And.intro ?_ ?_; (first | omega | (intro _; omega) | decide | (intro hg; refine ⟨hg, ?_⟩; omega) | grind)))
        refine hK12 _ _ ?_
        try clear hK12 K12
        refine AWp.cond _ rfl (fun hc2 => ?_) (fun hc2 => ?_)
        · skip
          refine AWp.rk fun K13 hK13 => ?_
          try simp only [go_sem, fb1]
          (repeat (with_reducible refine And.intro ?_ ?_; (first | omega | (intro _; omega) | decide | (intro hg; refine ⟨hg, ?_⟩; omega) | grind)))
          refine hK13 _ _ ?_
          try clear hK13 K13
          refine thenQ_n ?_
          (refine ⟨0, 0, _, _, ?_, ?_, rfl, rfl⟩) <;> try simp only [go_sem, fb1]
          all_goals (first | grind (splits := 30) | (subst hz; simp_all; done) | (subst hz; simp_all; omega) | (subst hz; simp_all; grind))
        · skip
          refine AWp.skip ?_
          refine thenQ_n ?_
          (refine ⟨0, 0, _, _, ?_, ?_, rfl, rfl⟩) <;> try simp only [go_sem, fb1]
          all_goals (first | grind (splits := 30) | (subst hz; simp_all; done) | (subst hz; simp_all; omega) | (subst hz; simp_all; grind))
      rintro s h ⟨rfl, rfl⟩
      generalize hz : (bareB t (inB t.kind 6 8 || decide (t.kind = 9)) (inB t.kind 6 8) (inB t.kind 6 8) (inB t.kind 6 8 && !decide (t.kind = 6)) (decide (t.kind = 10)) (inB t.kind 3 5) && (!(inB t.kind 6 8 || decide (t.kind = 9)) || decide (0 < t.names.length))) = z
      try simp only [go_sem]
      refine AWp.join (fun s h => s = [.any, .d (.int .i64 d), .ptr b1 8 0 0, .any, .any, .d (.bool (inB t.kind 6 8)), .d (.bool (inB t.kind 3 5)), .d (.bool (bareB t (inB t.kind 6 8 || decide (t.kind = 9)) (inB t.kind 6 8) (inB t.kind 6 8) (inB t.kind 6 8 && !decide (t.kind = 6)) (decide (t.kind = 10)) (inB t.kind 3 5) && (!(inB t.kind 6 8 || decide (t.kind = 9)) || decide (0 < t.names.length)) && (!inB t.kind 6 8 || (decide (0 < t.keys.length) && inB t.mat 1 3 && (decide (t.kind = 6) || inB t.part 1 3))))), .any, .any, .any, .any, .any, .any, .any, .any, .any, .any, .any, .any, .any, .any, .any, .any, .any, .any, .any, .any, .any, .any, .any, .any, .any, .any, .any, .any, .any, .any, .any, .any, .any, .any, .any, .any, .any, .any, .any, .any, .any, .any, .any, .any, .any, .any, .any, .any, .any, .any, .any, .any, .any, .any, .any, .any, .any, .any, .any, .any, .any, .any, .any, .any, .any, .any, .any, .any, .any, .any, .any, .any, .any, .any, .any, .any, .any, .any, .any, .any, .any, .any, .any, .any, .any, .any, .any, .any, .any, .any, .any, .any, .any, .any, .any, .any, .any, .any, .any, .any, .any, .any, .any, .any, .any, .any, .any, .any, .any, .any, .any, .any, .any, .any, .any, .any, .any, .any] ∧ h = ⟨[(b1, ⟨8, 1, [tstA t]⟩)], []⟩) ?_ ?_
      · skip
        refine AWp.rs fun K14 hK14 => ?_
        try simp only [go_sem, fb1]
        (repeat (with_reducible refine And.intro ?_ ?_; (first | omega | (intro _; omega) | decide | (intro hg; refine ⟨hg, ?_⟩; omega) | grind)))
        refine hK14 _ _ ?_
        try clear hK14 K14
        refine AWp.cond _ rfl (fun hc3 => ?_) (fun hc3 => ?_)
        · skip
          refine AWp.rk fun K15 hK15 => ?_
          try simp only [go_sem, fb1]
          (repeat (with_reducible refine And.intro ?_ ?_; (first | omega | (intro _; omega) | decide | (intro hg; refine ⟨hg, ?_⟩; omega) | grind)))
          refine DW.pcgr rfl rfl rfl rfl rfl (fun hg => in_c T _ _ _) (fun hg => by (try simp only [go_sem, fb1]) <;> first | exact hg | (simpa using hg) | grind) rfl rfl ?_
          try simp only [go_sem, fb1]
          (repeat (with_reducible refine And.intro ?_ ?_; (first | omega | (intro _; omega) | decide | (intro hg; refine ⟨hg, ?_⟩; omega) | grind)))
          refine DW.pcgr rfl rfl rfl rfl rfl (fun hg => in_c T _ _ _) (fun hg => by (try simp only [go_sem, fb1]) <;> first | exact hg | (simpa using hg) | grind) rfl rfl ?_
          try simp only [go_sem, fb1]
          (repeat (with_reducible refine And.intro ?_ ?_; (first | omega | (intro _; omega) | decide | (intro hg; refine ⟨hg, ?_⟩; omega) | grind)))
          refine hK15 _ _ ?_
          try clear hK15 K15
          refine thenQ_n ?_
          (refine ⟨0, 0, _, _, ?_, ?_, rfl, rfl⟩) <;> try simp only [go_sem, fb1]
          all_goals (first | grind (splits := 30) | (subst hz; simp_all; done) | (subst hz; simp_all; omega) | (subst hz; simp_all; grind))
        · skip
          refine AWp.skip ?_
          refine thenQ_n ?_
          (refine ⟨0, 0, _, _, ?_, ?_, rfl, rfl⟩) <;> try simp only [go_sem, fb1]
          all_goals (first | grind (splits := 30) | (subst hz; simp_all; done) | (subst hz; simp_all; omega) | (subst hz; simp_all; grind))
      rintro s h ⟨rfl, rfl⟩
      generalize hz : (bareB t (inB t.kind 6 8 || decide (t.kind = 9)) (inB t.kind 6 8) (inB t.kind 6 8) (inB t.kind 6 8 && !decide (t.kind = 6)) (decide (t.kind = 10)) (inB t.kind 3 5) && (!(inB t.kind 6 8 || decide (t.kind = 9)) || decide (0 < t.names.length)) && (!inB t.kind 6 8 || (decide (0 < t.keys.length) && inB t.mat 1 3 && (decide (t.kind = 6) || inB t.part 1 3)))) = z
      try simp only [go_sem]
      refine AWp.join (fun s h => s = [.any, .d (.int .i64 d), .ptr b1 8 0 0, .any, .any, .d (.bool (inB t.kind 6 8)), .d (.bool (inB t.kind 3 5)), .d (.bool (bareB t (inB t.kind 6 8 || decide (t.kind = 9)) (inB t.kind 6 8) (inB t.kind 6 8) (inB t.kind 6 8 && !decide (t.kind = 6)) (decide (t.kind = 10)) (inB t.kind 3 5) && (!(inB t.kind 6 8 || decide (t.kind = 9)) || decide (0 < t.names.length)) && (!inB t.kind 6 8 || (decide (0 < t.keys.length) && inB t.mat 1 3 && (decide (t.kind = 6) || inB t.part 1 3))) && (!decide (t.kind = 10) || inB t.limit 0 2147483647))), .any, .any, .any, .any, .any, .any, .any, .any, .any, .any, .any, .any, .any, .any, .any, .any, .any, .any, .any, .any, .any, .any, .any, .any, .any, .any, .any, .any, .any, .any, .any, .any, .any, .any, .any, .any, .any, .any, .any, .any, .any, .any, .any, .any, .any, .any, .any, .any, .any, .any, .any, .any, .any, .any, .any, .any, .any, .any, .any, .any, .any, .any, .any, .any, .any, .any, .any, .any, .any, .any, .any, .any, .any, .any, .any, .any, .any, .any, .any, .any, .any, .any, .any, .any, .any, .any, .any, .any, .any, .any, .any, .any, .any, .any, .any, .any, .any, .any, .any, .any, .any, .any, .any, .any, .any, .any, .any, .any, .any, .any, .any, .any, .any, .any, .any, .any, .any, .any] ∧ h = ⟨[(b1, ⟨8, 1, [tstA t]⟩)], []⟩) ?_ ?_
      · skip
        refine AWp.rs fun K16 hK16 => ?_
        try simp only [go_sem, fb1]
        (repeat (with_reducible refine And.intro ?_ ?_; (first | omega | (intro _; omega) | decide | (intro hg; refine ⟨hg, ?_⟩; omega) | grind)))
        refine hK16 _ _ ?_
        try clear hK16 K16
        refine AWp.cond _ rfl (fun hc4 => ?_) (fun hc4 => ?_)
        · skip
          refine AWp.rk fun K17 hK17 => ?_
          try simp only [go_sem, fb1]
          (repeat (with_reducible refine And.intro ?_ ?_; (first | omega | (intro _; omega) | decide | (intro hg; refine ⟨hg, ?_⟩; omega) | grind)))
          refine DW.pcgr rfl rfl rfl rfl rfl (fun hg => in_c T _ _ _) (fun hg => by (try simp only [go_sem, fb1]) <;> first | exact hg | (simpa using hg) | grind) rfl rfl ?_
          try simp only [go_sem, fb1]
          (repeat (with_reducible refine And.intro ?_ ?_; (first | omega | (intro _; omega) | decide | (intro hg; refine ⟨hg, ?_⟩; omega) | grind)))
          refine hK17 _ _ ?_
          try clear hK17 K17
          refine thenQ_n ?_
          (refine ⟨0, 0, _, _, ?_, ?_, rfl, rfl⟩) <;> try simp only [go_sem, fb1]
          all_goals (first | grind (splits := 30) | (subst hz; simp_all; done) | (subst hz; simp_all; omega) | (subst hz; simp_all; grind))
        · skip
          refine AWp.skip ?_
          refine thenQ_n ?_
          (refine ⟨0, 0, _, _, ?_, ?_, rfl, rfl⟩) <;> try simp only [go_sem, fb1]
          all_goals (first | grind (splits := 30) | (subst hz; simp_all; done) | (subst hz; simp_all; omega) | (subst hz; simp_all; grind))
      rintro s h ⟨rfl, rfl⟩
      generalize hz : (bareB t (inB t.kind 6 8 || decide (t.kind = 9)) (inB t.kind 6 8) (inB t.kind 6 8) (inB t.kind 6 8 && !decide (t.kind = 6)) (decide (t.kind = 10)) (inB t.kind 3 5) && (!(inB t.kind 6 8 || decide (t.kind = 9)) || decide (0 < t.names.length)) && (!inB t.kind 6 8 || (decide (0 < t.keys.length) && inB t.mat 1 3 && (decide (t.kind = 6) || inB t.part 1 3))) && (!decide (t.kind = 10) || inB t.limit 0 2147483647)) = z
      try simp only [go_sem]
      refine AWp.join (fun s h => s = [.any, .d (.int .i64 d), .ptr b1 8 0 0, .any, .any, .d (.bool (inB t.kind 6 8)), .d (.bool (inB t.kind 3 5)), .d (.bool (bareB t (inB t.kind 6 8 || decide (t.kind = 9)) (inB t.kind 6 8) (inB t.kind 6 8) (inB t.kind 6 8 && !decide (t.kind = 6)) (decide (t.kind = 10)) (inB t.kind 3 5) && (!(inB t.kind 6 8 || decide (t.kind = 9)) || decide (0 < t.names.length)) && (!inB t.kind 6 8 || (decide (0 < t.keys.length) && inB t.mat 1 3 && (decide (t.kind = 6) || inB t.part 1 3))) && (!decide (t.kind = 10) || inB t.limit 0 2147483647) && (!inB t.kind 3 5 || (decide (0 < t.kids.length) && (!decide (t.kind = 3) || decide (t.kids.length = 1)))))), .any, .any, .any, .any, .any, .any, .any, .any, .any, .any, .any, .any, .any, .any, .any, .any, .any, .any, .any, .any, .any, .any, .any, .any, .any, .any, .any, .any, .any, .any, .any, .any, .any, .any, .any, .any, .any, .any, .any, .any, .any, .any, .any, .any, .any, .any, .any, .any, .any, .any, .any, .any, .any, .any, .any, .any, .any, .any, .any, .any, .any, .any, .any, .any, .any, .any, .any, .any, .any, .any, .any, .any, .any, .any, .any, .any, .any, .any, .any, .any, .any, .any, .any, .any, .any, .any, .any, .any, .any, .any, .any, .any, .any, .any, .any, .any, .any, .any, .any, .any, .any, .any, .any, .any, .any, .any, .any, .any, .any, .any, .any, .any, .any, .any, .any, .any, .any, .any] ∧ h = ⟨[(b1, ⟨8, 1, [tstA t]⟩)], []⟩) ?_ ?_
      · skip
        refine AWp.rs fun K18 hK18 => ?_
        try simp only [go_sem, fb1]
        (repeat (with_reducible refine And.intro ?_ ?_; (first | omega | (intro _; omega) | decide | (intro hg; refine ⟨hg, ?_⟩; omega) | grind)))
        refine hK18 _ _ ?_
        try clear hK18 K18
        refine AWp.cond _ rfl (fun hc5 => ?_) (fun hc5 => ?_)
        · skip
          refine AWp.rk fun K19 hK19 => ?_
          try simp only [go_sem, fb1]
          (repeat (with_reducible refine And.intro ?_ ?_; (first | omega | (intro _; omega) | decide | (intro hg; refine ⟨hg, ?_⟩; omega) | grind)))
          refine hK19 _ _ ?_
          try clear hK19 K19
          refine thenQ_n ?_
          (refine ⟨0, 0, _, _, ?_, ?_, rfl, rfl⟩) <;> try simp only [go_sem, fb1]
          all_goals (first | grind (splits := 30) | (subst hz; simp_all; done) | (subst hz; simp_all; omega) | (subst hz; simp_all; grind))
        · skip
          refine AWp.skip ?_
          refine thenQ_n ?_
          (refine ⟨0, 0, _, _, ?_, ?_, rfl, rfl⟩) <;> try simp only [go_sem, fb1]
          all_goals (first | grind (splits := 30) | (subst hz; simp_all; done) | (subst hz; simp_all; omega) | (subst hz; simp_all; grind))
      rintro s h ⟨rfl, rfl⟩
      generalize hz : (bareB t (inB t.kind 6 8 || decide (t.kind = 9)) (inB t.kind 6 8) (inB t.kind 6 8) (inB t.kind 6 8 && !decide (t.kind = 6)) (decide (t.kind = 10)) (inB t.kind 3 5) && (!(inB t.kind 6 8 || decide (t.kind = 9)) || decide (0 < t.names.length)) && (!inB t.kind 6 8 || (decide (0 < t.keys.length) && inB t.mat 1 3 && (decide (t.kind = 6) || inB t.part 1 3))) && (!decide (t.kind = 10) || inB t.limit 0 2147483647) && (!inB t.kind 3 5 || (decide (0 < t.kids.length) && (!decide (t.kind = 3) || decide (t.kids.length = 1))))) = z
      try simp only [go_sem]
      refine AWp.seq fun K20 hK20 => ?_
      refine AWp.rs fun K21 hK21 => ?_
      try simp only [go_sem, fb1]
      (repeat (with_reducible refine And.intro ?_ ?_; (first | omega | (intro _; omega) | decide | (intro hg; refine ⟨hg, ?_⟩; omega) | grind)))
      refine hK21 _ _ ?_
      try clear hK21 K21
      refine AWp.cond _ rfl (fun hc6 => ?_) (fun hc6 => ?_)
      · skip
        refine AWp.rs fun K22 hK22 => ?_
        try simp only [go_sem, fb1]
        (repeat (with_reducible refine And.intro ?_ ?_; (first | omega | (intro _; omega) | decide | (intro hg; refine ⟨hg, ?_⟩; omega) | grind)))
        refine hK22 _ _ ?_
        try clear hK22 K22
        refine AWp.ret ?_
        try simp only [go_sem, fb1]
        have hs : okS t = false := by
          rw [okS]; grind (splits := 30)
        rw [tF_shape _ _ hk hd6 hs]
      · skip
        have hs : okS t = true := by
          rw [okS]; grind (splits := 30)
        have h0 := tF_kids _ _ hk hd6 hs
        refine AWp.skip ?_
        refine thenQ_n ?_
        refine hK20 _ _ ?_
        try clear hK20 K20
        refine AWp.seq fun K23 hK23 => ?_
        refine AWp.rs fun K24 hK24 => ?_
        try simp only [go_sem, fb1]
        (repeat (with_reducible refine And.intro ?_ ?_; (first | omega | (intro _; omega) | decide | (intro hg; refine ⟨hg, ?_⟩; omega) | grind)))
        refine hK24 _ _ ?_
        try clear hK24 K24
        refine AWp.block ?_
        refine AWp.loop [1, 2, 8] (fun n s h => ∃ (k : Nat), k ≤ t.kids.length ∧ tF t d = tFL (t.kids.drop k) (d + 1) ∧ n = t.kids.length - k ∧ s = [.any, .d (.int .i64 d), .ptr b1 8 0 0, .any, .any, .any, .any, .any, .d (.int .i64 k), .any, .any, .any, .any, .any, .any, .any, .any, .any, .any, .any, .any, .any, .any, .any, .any, .any, .any, .any, .any, .any, .any, .any, .any, .any, .any, .any, .any, .any, .any, .any, .any, .any, .any, .any, .any, .any, .any, .any, .any, .any, .any, .any, .any, .any, .any, .any, .any, .any, .any, .any, .any, .any, .any, .any, .any, .any, .any, .any, .any, .any, .any, .any, .any, .any, .any, .any, .any, .any, .any, .any, .any, .any, .any, .any, .any, .any, .any, .any, .any, .any, .any, .any, .any, .any, .any, .any, .any, .any, .any, .any, .any, .any, .any, .any, .any, .any, .any, .any, .any, .any, .any, .any, .any, .any, .any, .any, .any, .any, .any, .any, .any, .any, .any, .any, .any, .any] ∧ h = ⟨[(b1, ⟨8, 1, [tstA t]⟩)], []⟩) ⟨_, 0, Nat.zero_le _, h0, rfl, rfl, rfl⟩ ?_
        rintro n s h ⟨k, hk, htf, rfl, rfl, rfl⟩
        try simp only [go_sem]
        refine AWp.seq fun K25 hK25 => ?_
        refine AWp.rs fun K26 hK26 => ?_
        try simp only [go_sem, fb1]
        (repeat (with_reducible refine And.intro ?_ ?_; (first | omega | (intro _; omega) | decide | (intro hg; refine ⟨hg, ?_⟩; omega) | grind)))
        refine hK26 _ _ ?_
        try clear hK26 K26
        refine AWp.cond _ rfl (fun hc7 => ?_) (fun hc7 => ?_)
        · skip
          have hlt : k < t.kids.length := by simpa using hc7
          refine AWp.skip ?_
          refine thenQ_n ?_
          refine hK25 _ _ ?_
          try clear hK25 K25
          refine AWp.seq fun K27 hK27 => ?_
          refine AWp.block ?_
          refine AWp.rs fun K28 hK28 => ?_
          try simp only [go_sem, fb1, kidsD_get t k _ hlt]
          (repeat (with_reducible refine And.intro ?_ ?_; (first | omega | (intro _; omega) | decide | (intro hg; refine ⟨hg, ?_⟩; omega) | grind)))
          refine DW.pcr rfl rfl rfl rfl (ih _ (List.getElem_mem hlt) _ (by omega) (by omega)) rfl rfl ?_
          try simp only [go_sem, fb1, kidsD_get t k _ hlt]
          (repeat (with_reducible refine And.intro ?_ ?_; (first | omega | (intro _; omega) | decide | (intro hg; refine ⟨hg, ?_⟩; omega) | grind)))
          refine hK28 _ _ ?_
          try clear hK28 K28
          refine AWp.rs fun K29 hK29 => ?_
          try simp only [go_sem, fb1, kidsD_get t k _ hlt]
          (repeat (with_reducible refine And.intro ?_ ?_; (first | omega | (intro _; omega) | decide | (intro hg; refine ⟨hg, ?_⟩; omega) | grind)))
          refine hK29 _ _ ?_
          try clear hK29 K29
          refine AWp.cond _ rfl (fun hc8 => ?_) (fun hc8 => ?_)
          · skip
            refine AWp.rs fun K30 hK30 => ?_
            try simp only [go_sem, fb1, kidsD_get t k _ hlt]
            (repeat (with_reducible refine And.intro ?_ ?_; (first | omega | (intro _; omega) | decide | (intro hg; refine ⟨hg, ?_⟩; omega) | grind)))
            refine hK30 _ _ ?_
            try clear hK30 K30
            refine AWp.ret ?_
            try simp only [go_sem, fb1, kidsD_get t k _ hlt]
            rw [htf, tFL_drop _ _ _ hlt, if_neg (by simpa using hc8)]
          · skip
            refine AWp.skip ?_
            refine blkQ_n (thenQ_n ?_)
            refine hK27 _ _ ?_
            try clear hK27 K27
            refine AWp.rk fun K31 hK31 => ?_
            try simp only [go_sem, fb1, kidsD_get t k _ hlt]
            (repeat (with_reducible refine And.intro ?_ ?_; (first | omega | (intro _; omega) | decide | (intro hg; refine ⟨hg, ?_⟩; omega) | grind)))
            refine hK31 _ _ ?_
            try clear hK31 K31
            refine thenQ_n ?_
            refine ⟨_, 0, 0, ?_, k + 1, by omega, ?_, rfl, rfl, rfl⟩
            · omega
            · rw [htf, tFL_drop _ _ _ hlt, if_pos (by simpa using hc8)]
        · skip
          refine AWp.exit ?_
          refine thenQ_e (thenQ_e (blkQ_e (thenQ_n ?_)))
          refine hK23 _ _ ?_
          try clear hK23 K23
          refine AWp.rs fun K32 hK32 => ?_
          try simp only [go_sem, fb1]
          (repeat (with_reducible refine And.intro ?_ ?_; (first | omega | (intro _; omega) | decide | (intro hg; refine ⟨hg, ?_⟩; omega) | grind)))
          refine hK32 _ _ ?_
          try clear hK32 K32
          refine AWp.ret ?_
          try simp only [go_sem, fb1]
          have : t.kids.drop k = [] := List.drop_eq_nil_of_le (by simp at hc7; omega)
          rw [htf, this, tFL]
theorem testFault_c (T : Tbl) (t : Tst) (ok : t.Ok) (d : Int) (hd : -9 ≤ d) (hd2 : d ≤ 7) : PC Tryd.prog T 178 [.agg (tstA t), .d (.int .i64 d)] (.d (.int .i64 (tF t d))) := by
  induction t using Tst.ind generalizing d with
  | h t ih => exact testFault_step T t ok d hd hd2 fun x hx d h1 h2 => ih x hx (ok.inv.2.2.2 x hx) d h1 h2
end Go.Proofs.YtnoboapafndnlaaDoor

/- The writer: commands. -/
import Derived.Test.YtnoboapafndnlaaDoorWr2
namespace Go.Proofs.YtnoboapafndnlaaDoor
set_option linter.unusedSimpArgs false
set_option linter.unusedVariables false
set_option maxRecDepth 4000 in
set_option maxHeartbeats 1000000 in
theorem wblock_step (T : Tbl) (b u : Nat) (X : List Tok) (F : List (Nat × Ob)) (L : List Nat) (l : List Cmd) (hll : l.length * 208 ≤ 140737488355328) (hl : X.length + (tM [123] :: (lsT l ++ [tM [125]])).length ≤ 4398046511104) (ih : ∀ x ∈ l, ∀ (u : Nat) (X : List Tok) (F : List (Nat × Ob)) (L : List Nat), X.length + (tW (tabW cmdWs x.kind) :: cmT x).length ≤ 4398046511104 → AC Tryd.prog T 57 [.ptr b 1 0 0, .agg (cmdA x)] ⟨wob b u X :: F, u :: L⟩ (WR b F L (X ++ tW (tabW cmdWs x.kind) :: cmT x))) : AC Tryd.prog T 175 [.ptr b 1 0 0, .d (.slc 12 (l.map cmdD))] (⟨wob b u X :: F, u :: L⟩) (WR b F L (X ++ tM [123] :: (lsT l ++ [tM [125]]))) := by
  refine ⟨Tryd.call175, ACalls.enterS Tryd.func175 rfl Tryd.ntmps175 rfl fun hb => ?_⟩
  simp only [List.length_cons, List.length_append, List.length_nil] at hl
  simp only [go_sem, Tryd.results175]
  refine AWp.rs fun K1 hK1 => ?_
  try simp only [go_sem, wob]
  (repeat (with_reducible refine And.intro ?_ ?_; (first | omega | (intro _; omega) | decide | (exact nfB) | (intro hg; refine ⟨hg, ?_⟩; omega) | (split <;> omega) | (simp; done) | (simp; omega))))
  refine DW.acp [b] [u] rfl rfl rfl rfl (by (try simp only [go_sem, wob]); rfl) rfl (put_c T _ _ _ _ _ _ _ (by (try simp only [List.length_cons, List.length_append, List.length_nil]); omega)) ?_
  rintro _ _ ⟨W2, fW2, rfl, rfl⟩
  try simp only [freshT, freshL, wob] at fW2
  try simp only [go_sem, wob, fW2]
  (repeat (with_reducible refine And.intro ?_ ?_; (first | omega | (intro _; omega) | decide | (exact nfB) | (intro hg; refine ⟨hg, ?_⟩; omega) | (split <;> omega) | (simp; done) | (simp; omega))))
  refine hK1 _ _ ?_
  try clear hK1 K1
  refine AWp.seq fun K3 hK3 => ?_
  refine AWp.rs fun K4 hK4 => ?_
  try simp only [go_sem, wob, fW2]
  (repeat (with_reducible refine And.intro ?_ ?_; (first | omega | (intro _; omega) | decide | (exact nfB) | (intro hg; refine ⟨hg, ?_⟩; omega) | (split <;> omega) | (simp; done) | (simp; omega))))
  refine hK4 _ _ ?_
  try clear hK4 K4
  refine AWp.block ?_
  refine AWp.mask [true, false, false, false, true, true, true] rfl ?_
  simp only [go_sem]
  refine AWp.loopS [true, true, true] [false, false, false, true] (fun n lc hc => ∃ (k v : Nat) (Y : List Tok), n = l.length - k ∧ EqS lc [(10, .d (.int .i64 k))] ∧ EqS hc (⟨[wob b v Y] ++ F, v :: L⟩) ∧ (k ≤ l.length) ∧ (Y ++ lsT (l.drop k) = X ++ tM [123] :: lsT l)) rfl ?_ ?_
  · refine ⟨_, 0, W2, X ++ [⟨5, [123], 0⟩], rfl, ?_, ?_, ?_, ?_⟩
    · (try simp only [go_sem, wob, fW2]) <;> first | exact ⟨rfl⟩ | (constructor; simp; done)
    · (try simp only [go_sem, wob, fW2]) <;> first | exact ⟨rfl⟩ | (constructor; simp; done)
    all_goals (first | omega | (simp [tM]; done))
  · rintro _ _ _ ⟨k, v, Y, rfl, ⟨rfl⟩, ⟨rfl⟩, hk, hY⟩
    have hYl := congrArg List.length hY
    simp only [List.length_cons, List.length_append, List.length_nil] at hYl
    simp only [go_sem]
    refine AWp.rs fun K5 hK5 => ?_
    try simp only [go_sem, wob, fW2]
    (repeat (with_reducible refine And.intro ?_ ?_; (first | omega | (intro _; omega) | decide | (exact nfB) | (intro hg; refine ⟨hg, ?_⟩; omega) | (split <;> omega) | (simp; done) | (simp; omega))))
    refine hK5 _ _ ?_
    try clear hK5 K5
    refine AWp.seq fun K6 hK6 => ?_
    refine AWp.cond _ rfl (fun hc0 => ?_) (fun hc0 => ?_)
    · skip
      try simp only [decide_eq_true_eq, decide_eq_false_iff_not, Bool.not_eq_true', Bool.not_eq_false', Bool.and_eq_true, Bool.or_eq_true, Bool.and_eq_false_iff, Bool.or_eq_false_iff, Int.not_lt, Int.not_le, beq_iff_eq, beq_eq_false_iff_ne, ne_eq, Bool.not_eq_true, Bool.not_eq_false] at hc0
      have hlt : k < l.length := by omega
      rw [lsT_drop _ _ hlt] at hYl
      simp only [List.length_cons, List.length_append, List.length_nil] at hYl
      refine AWp.skip ?_
      refine thenQ_n ?_
      refine hK6 _ _ ?_
      try clear hK6 K6
      refine AWp.seq fun K7 hK7 => ?_
      refine AWp.block ?_
      refine AWp.rs fun K8 hK8 => ?_
      try simp only [go_sem, wob, fW2, map_getD cmdD _ _ _ hlt]
      (repeat (with_reducible refine And.intro ?_ ?_; (first | omega | (intro _; omega) | decide | (exact nfB) | (intro hg; refine ⟨hg, ?_⟩; omega) | (split <;> omega) | (simp; done) | (simp; omega))))
      intro b9 fb9
      try simp only [freshL, wob] at fb9
      try simp only [go_sem, wob, fW2, map_getD cmdD _ _ _ hlt, fb9]
      (repeat (with_reducible refine And.intro ?_ ?_; (first | omega | (intro _; omega) | decide | (exact nfB) | (intro hg; refine ⟨hg, ?_⟩; omega) | (split <;> omega) | (simp; done) | (simp; omega))))
      refine hK8 _ _ ?_
      try clear hK8 K8
      refine AWp.rk fun K10 hK10 => ?_
      try simp only [go_sem, wob, fW2, map_getD cmdD _ _ _ hlt, fb9]
      (repeat (with_reducible refine And.intro ?_ ?_; (first | omega | (intro _; omega) | decide | (exact nfB) | (intro hg; refine ⟨hg, ?_⟩; omega) | (split <;> omega) | (simp; done) | (simp; omega))))
      refine DW.acp [b] [v] rfl rfl rfl rfl (by (try simp only [go_sem, wob, fW2, map_getD cmdD _ _ _ hlt, fb9]); rfl) rfl (ih _ (List.getElem_mem hlt) _ _ _ _ (by (try simp only [List.length_cons, List.length_append, List.length_nil]); omega)) ?_
      rintro _ _ ⟨W11, fW11, rfl, rfl⟩
      try simp only [freshT, freshL, wob] at fW11
      try simp only [go_sem, wob, fW2, map_getD cmdD _ _ _ hlt, fb9, fW11]
      (repeat (with_reducible refine And.intro ?_ ?_; (first | omega | (intro _; omega) | decide | (exact nfB) | (intro hg; refine ⟨hg, ?_⟩; omega) | (split <;> omega) | (simp; done) | (simp; omega))))
      refine hK10 _ _ ?_
      try clear hK10 K10
      refine blkQ_n (thenQ_n ?_)
      refine hK7 _ _ ?_
      try clear hK7 K7
      refine AWp.mask [true, false, true, true, true] rfl ?_
      simp only [go_sem]
      refine AWp.rk fun K12 hK12 => ?_
      try simp only [go_sem, wob, fW2, map_getD cmdD _ _ _ hlt, fb9, fW11]
      (repeat (with_reducible refine And.intro ?_ ?_; (first | omega | (intro _; omega) | decide | (exact nfB) | (intro hg; refine ⟨hg, ?_⟩; omega) | (split <;> omega) | (simp; done) | (simp; omega))))
      refine hK12 _ _ ?_
      try clear hK12 K12
      refine thenQ_n ?_
      refine EndS.mk [true, true, true] [false, false, false, true] [b9] [] [b] [W11] rfl ?_ ?_
      · (try simp only [go_sem, wob, fW2, map_getD cmdD _ _ _ hlt, fb9, fW11]) <;> try rfl
      refine .e ⟨_, ?_, k + 1, W11, Y ++ (tW (tabW cmdWs (l[k]'hlt).kind) :: cmT (l[k]'hlt)), rfl, ?_, ?_, ?_, ?_⟩
      · first | omega | (simp; omega) | (grind)
      · (try simp only [go_sem, wob, fW2, map_getD cmdD _ _ _ hlt, fb9, fW11]) <;> first | exact ⟨rfl⟩ | (constructor; simp; done)
      · (try simp only [go_sem, wob, fW2, map_getD cmdD _ _ _ hlt, fb9, fW11]) <;> first | exact ⟨rfl⟩ | (constructor; simp; done)
      · omega
      · rw [← hY, lsT_drop _ _ hlt]; simp
    · skip
      try simp only [decide_eq_true_eq, decide_eq_false_iff_not, Bool.not_eq_true', Bool.not_eq_false', Bool.and_eq_true, Bool.or_eq_true, Bool.and_eq_false_iff, Bool.or_eq_false_iff, Int.not_lt, Int.not_le, beq_iff_eq, beq_eq_false_iff_ne, ne_eq, Bool.not_eq_true, Bool.not_eq_false] at hc0
      rw [lsT_end _ _ (by omega), List.append_nil] at hY
      rw [lsT_end _ _ (by omega), List.length_nil] at hYl
      refine AWp.exit ?_
      refine thenQ_e (thenQ_e (blkQ_e (thenQ_n ?_)))
      refine hK3 _ _ ?_
      try clear hK3 K3
      refine AWp.mask [true] rfl ?_
      simp only [go_sem]
      refine AWp.rk fun K13 hK13 => ?_
      try simp only [go_sem, wob, fW2]
      (repeat (with_reducible refine And.intro ?_ ?_; (first | omega | (intro _; omega) | decide | (exact nfB) | (intro hg; refine ⟨hg, ?_⟩; omega) | (split <;> omega) | (simp; done) | (simp; omega))))
      refine DW.acp [b] [v] rfl rfl rfl rfl (by (try simp only [go_sem, wob, fW2]); rfl) rfl (put_c T _ _ _ _ _ _ _ (by (try simp only [List.length_cons, List.length_append, List.length_nil]); omega)) ?_
      rintro _ _ ⟨W14, fW14, rfl, rfl⟩
      try simp only [freshT, freshL, wob] at fW14
      try simp only [go_sem, wob, fW2, fW14]
      (repeat (with_reducible refine And.intro ?_ ?_; (first | omega | (intro _; omega) | decide | (exact nfB) | (intro hg; refine ⟨hg, ?_⟩; omega) | (split <;> omega) | (simp; done) | (simp; omega))))
      refine hK13 _ _ ?_
      try clear hK13 K13
      apply endW_n [] [] [b] [W14] (by (try simp only [go_sem, wob, fW2, fW14]); rfl)
      · refine ⟨W14, by simp only [go_sem, wob, fW2, fW14], rfl, ?_⟩
        (simp only [go_sem, wob, fW2, fW14, tW, tG, tM, tN, tS, List.append_assoc, List.cons_append, List.nil_append, hY]; done)
      · simp only [LeA, LeL]
set_option maxRecDepth 4000 in
set_option maxHeartbeats 1000000 in
theorem wbranch_0 (T : Tbl) (b u : Nat) (X : List Tok) (F : List (Nat × Ob)) (L : List Nat) (c : Cmd) (ok : c.Ok) (h0 : c.els.length = 0) (tb : Tabs T) (h2 : c.kind = 2) (d : Int) (hF : cF c d = 0) (hl : X.length + (cmT c).length ≤ 4398046511104) (i1 : ∀ (u : Nat) (X : List Tok) (F : List (Nat × Ob)) (L : List Nat), X.length + (tM [123] :: (lsT c.thn ++ [tM [125]])).length ≤ 4398046511104 → AC Tryd.prog T 175 [.ptr b 1 0 0, .d (.slc 12 (thnD c))] ⟨wob b u X :: F, u :: L⟩ (WR b F L (X ++ tM [123] :: (lsT c.thn ++ [tM [125]])))) (i2 : ∀ (u : Nat) (X : List Tok) (F : List (Nat × Ob)) (L : List Nat), X.length + (tM [123] :: (lsT c.els ++ [tM [125]])).length ≤ 4398046511104 → AC Tryd.prog T 175 [.ptr b 1 0 0, .d (.slc 12 (elsD c))] ⟨wob b u X :: F, u :: L⟩ (WR b F L (X ++ tM [123] :: (lsT c.els ++ [tM [125]])))) : AC Tryd.prog T 110 [.ptr b 1 0 0, .agg (cmdA c)] (⟨wob b u X :: F, u :: L⟩) (WR b F L (X ++ cmT c)) := by
  refine ⟨Tryd.call110, ACalls.enterS Tryd.func110 rfl Tryd.ntmps110 rfl fun hb => ?_⟩
  obtain ⟨s1, s2, s3, s4, s5, s6⟩ := ok.inv
  obtain ⟨hk, hok, _⟩ := cF_ok hF
  obtain ⟨hft, _, _, _⟩ := hok h2
  have hT : cmT c = tT c.test ++ tM [123] :: (lsT c.thn ++ tM [125] :: elT c.els) := by rw [cmT_eq, if_pos h2]
  have hTl := congrArg List.length hT
  simp only [List.length_cons, List.length_append, List.length_nil] at hTl
  have hE : elsD c = [] := by rw [elsD_eq, List.map_eq_nil_iff]; exact List.eq_nil_of_length_eq_zero h0
  have hi0 : ((c.els.length : Int) = 1) = False := by simp only [eq_iff_iff, iff_false]; omega
  rw [elT_0 c h0] at hT hTl
  simp only [go_sem, Tryd.results110]
  refine AWp.rs fun K1 hK1 => ?_
  try simp only [go_sem, wob, tb.cmds, hE, List.getD_nil, List.take_nil, List.map_nil, List.headD_nil, hi0, decide_false]
  (repeat (with_reducible refine And.intro ?_ ?_; (first | omega | (intro _; omega) | decide | (exact nfB) | (intro hg; refine ⟨hg, ?_⟩; omega) | (split <;> omega) | (simp; done) | (simp; omega))))
  intro b3 fb3
  try simp only [freshL, wob] at fb3
  try simp only [go_sem, wob, tb.cmds, hE, List.getD_nil, List.take_nil, List.map_nil, List.headD_nil, hi0, decide_false, fb3]
  (repeat (with_reducible refine And.intro ?_ ?_; (first | omega | (intro _; omega) | decide | (exact nfB) | (intro hg; refine ⟨hg, ?_⟩; omega) | (split <;> omega) | (simp; done) | (simp; omega))))
  refine hK1 _ _ ?_
  try clear hK1 K1
  refine AWp.rs fun K2 hK2 => ?_
  try simp only [go_sem, wob, tb.cmds, hE, List.getD_nil, List.take_nil, List.map_nil, List.headD_nil, hi0, decide_false, fb3]
  (repeat (with_reducible refine And.intro ?_ ?_; (first | omega | (intro _; omega) | decide | (exact nfB) | (intro hg; refine ⟨hg, ?_⟩; omega) | (split <;> omega) | (simp; done) | (simp; omega))))
  refine DW.acp [b] [u] rfl rfl rfl rfl (by (try simp only [go_sem, wob, tb.cmds, hE, List.getD_nil, List.take_nil, List.map_nil, List.headD_nil, hi0, decide_false, fb3]); rfl) rfl (wtest_c T _ tb c.test s2 1 hft _ _ _ _ (by (try simp only [List.length_cons, List.length_append, List.length_nil]); omega)) ?_
  rintro _ _ ⟨W3, fW3, rfl, rfl⟩
  try simp only [freshT, freshL, wob] at fW3
  try simp only [go_sem, wob, tb.cmds, hE, List.getD_nil, List.take_nil, List.map_nil, List.headD_nil, hi0, decide_false, fb3, fW3]
  (repeat (with_reducible refine And.intro ?_ ?_; (first | omega | (intro _; omega) | decide | (exact nfB) | (intro hg; refine ⟨hg, ?_⟩; omega) | (split <;> omega) | (simp; done) | (simp; omega))))
  refine hK2 _ _ ?_
  try clear hK2 K2
  refine AWp.mask [true, false, true] rfl ?_
  simp only [go_sem]
  refine AWp.rs fun K4 hK4 => ?_
  try simp only [go_sem, wob, tb.cmds, hE, List.getD_nil, List.take_nil, List.map_nil, List.headD_nil, hi0, decide_false, fb3, fW3]
  (repeat (with_reducible refine And.intro ?_ ?_; (first | omega | (intro _; omega) | decide | (exact nfB) | (intro hg; refine ⟨hg, ?_⟩; omega) | (split <;> omega) | (simp; done) | (simp; omega))))
  refine DW.acp [b] [W3] rfl rfl rfl rfl (by (try simp only [go_sem, wob, tb.cmds, hE, List.getD_nil, List.take_nil, List.map_nil, List.headD_nil, hi0, decide_false, fb3, fW3]); rfl) rfl (i1 _ _ _ _ (by (try simp only [List.length_cons, List.length_append, List.length_nil]); omega)) ?_
  rintro _ _ ⟨W5, fW5, rfl, rfl⟩
  try simp only [freshT, freshL, wob] at fW5
  try simp only [go_sem, wob, tb.cmds, hE, List.getD_nil, List.take_nil, List.map_nil, List.headD_nil, hi0, decide_false, fb3, fW3, fW5]
  (repeat (with_reducible refine And.intro ?_ ?_; (first | omega | (intro _; omega) | decide | (exact nfB) | (intro hg; refine ⟨hg, ?_⟩; omega) | (split <;> omega) | (simp; done) | (simp; omega))))
  refine hK4 _ _ ?_
  try clear hK4 K4
  refine AWp.mask [true, true] rfl ?_
  simp only [go_sem]
  refine AWp.block ?_
  refine AWp.rs fun K6 hK6 => ?_
  try simp only [go_sem, wob, tb.cmds, hE, List.getD_nil, List.take_nil, List.map_nil, List.headD_nil, hi0, decide_false, fb3, fW3, fW5]
  (repeat (with_reducible refine And.intro ?_ ?_; (first | omega | (intro _; omega) | decide | (exact nfB) | (intro hg; refine ⟨hg, ?_⟩; omega) | (split <;> omega) | (simp; done) | (simp; omega))))
  refine hK6 _ _ ?_
  try clear hK6 K6
  refine AWp.mask [true, true, true] rfl ?_
  simp only [go_sem]
  refine AWp.cond _ rfl (fun hc0 => ?_) (fun hc0 => ?_)
  · skip
    simp at hc0
  · skip
    try simp only [decide_eq_true_eq, decide_eq_false_iff_not, Bool.not_eq_true', Bool.not_eq_false', Bool.and_eq_true, Bool.or_eq_true, Bool.and_eq_false_iff, Bool.or_eq_false_iff, Int.not_lt, Int.not_le, beq_iff_eq, beq_eq_false_iff_ne, ne_eq, Bool.not_eq_true, Bool.not_eq_false] at hc0
    refine AWp.rs fun K7 hK7 => ?_
    try simp only [go_sem, wob, tb.cmds, hE, List.getD_nil, List.take_nil, List.map_nil, List.headD_nil, hi0, decide_false, fb3, fW3, fW5]
    (repeat (with_reducible refine And.intro ?_ ?_; (first | omega | (intro _; omega) | decide | (exact nfB) | (intro hg; refine ⟨hg, ?_⟩; omega) | (split <;> omega) | (simp; done) | (simp; omega))))
    refine hK7 _ _ ?_
    try clear hK7 K7
    refine AWp.mask [true, true, false, true] rfl ?_
    simp only [go_sem]
    refine AWp.cond _ rfl (fun hc1 => ?_) (fun hc1 => ?_)
    · skip
      simp at hc1
    · skip
      try simp only [decide_eq_true_eq, decide_eq_false_iff_not, Bool.not_eq_true', Bool.not_eq_false', Bool.and_eq_true, Bool.or_eq_true, Bool.and_eq_false_iff, Bool.or_eq_false_iff, Int.not_lt, Int.not_le, beq_iff_eq, beq_eq_false_iff_ne, ne_eq, Bool.not_eq_true, Bool.not_eq_false] at hc1
      refine AWp.skip ?_
      refine blkQ_n ?_
      apply endW_n [b3] [] [b] [W5] (by (try simp only [go_sem, wob, tb.cmds, hE, List.getD_nil, List.take_nil, List.map_nil, List.headD_nil, hi0, decide_false, fb3, fW3, fW5]); rfl)
      · refine ⟨W5, by simp only [go_sem, wob, tb.cmds, hE, List.getD_nil, List.take_nil, List.map_nil, List.headD_nil, hi0, decide_false, fb3, fW3, fW5], rfl, ?_⟩
        (simp only [go_sem, wob, tb.cmds, hE, List.getD_nil, List.take_nil, List.map_nil, List.headD_nil, hi0, decide_false, fb3, fW3, fW5, tW, tG, tM, tN, tS, List.append_assoc, List.cons_append, List.nil_append, hT]; done)
      · simp only [LeA, LeL]
set_option maxRecDepth 4000 in
set_option maxHeartbeats 1000000 in
theorem wbranch_1 (T : Tbl) (b u : Nat) (X : List Tok) (F : List (Nat × Ob)) (L : List Nat) (c : Cmd) (ok : c.Ok) (h0 : 0 < c.els.length) (tb : Tabs T) (h2 : c.kind = 2) (d : Int) (hF : cF c d = 0) (hl : X.length + (cmT c).length ≤ 4398046511104) (i1 : ∀ (u : Nat) (X : List Tok) (F : List (Nat × Ob)) (L : List Nat), X.length + (tM [123] :: (lsT c.thn ++ [tM [125]])).length ≤ 4398046511104 → AC Tryd.prog T 175 [.ptr b 1 0 0, .d (.slc 12 (thnD c))] ⟨wob b u X :: F, u :: L⟩ (WR b F L (X ++ tM [123] :: (lsT c.thn ++ [tM [125]])))) (i2 : ∀ (u : Nat) (X : List Tok) (F : List (Nat × Ob)) (L : List Nat), X.length + (tM [123] :: (lsT c.els ++ [tM [125]])).length ≤ 4398046511104 → AC Tryd.prog T 175 [.ptr b 1 0 0, .d (.slc 12 (elsD c))] ⟨wob b u X :: F, u :: L⟩ (WR b F L (X ++ tM [123] :: (lsT c.els ++ [tM [125]])))) (i3 : (c.els[0]'h0).kind = 2 → ∀ (u : Nat) (X : List Tok) (F : List (Nat × Ob)) (L : List Nat), X.length + (cmT (c.els[0]'h0)).length ≤ 4398046511104 → AC Tryd.prog T 110 [.ptr b 1 0 0, .agg (cmdA (c.els[0]'h0))] ⟨wob b u X :: F, u :: L⟩ (WR b F L (X ++ cmT (c.els[0]'h0)))) : AC Tryd.prog T 110 [.ptr b 1 0 0, .agg (cmdA c)] (⟨wob b u X :: F, u :: L⟩) (WR b F L (X ++ cmT c)) := by
  refine ⟨Tryd.call110, ACalls.enterS Tryd.func110 rfl Tryd.ntmps110 rfl fun hb => ?_⟩
  obtain ⟨s1, s2, s3, s4, s5, s6⟩ := ok.inv
  obtain ⟨hk, hok, _⟩ := cF_ok hF
  obtain ⟨hft, _, _, _⟩ := hok h2
  have hT : cmT c = tT c.test ++ tM [123] :: (lsT c.thn ++ tM [125] :: elT c.els) := by rw [cmT_eq, if_pos h2]
  have hTl := congrArg List.length hT
  simp only [List.length_cons, List.length_append, List.length_nil] at hTl
  have el1 : ((c.els.length : Int) = 1) = (c.els.length = 1) := by simp only [eq_iff_iff]; omega
  simp only [go_sem, Tryd.results110]
  refine AWp.rs fun K1 hK1 => ?_
  try simp only [go_sem, wob, tb.cmds, elsD_get c _ _ h0, el1]
  (repeat (with_reducible refine And.intro ?_ ?_; (first | omega | (intro _; omega) | decide | (exact nfB) | (intro hg; refine ⟨hg, ?_⟩; omega) | (split <;> omega) | (simp; done) | (simp; omega))))
  intro b3 fb3
  try simp only [freshL, wob] at fb3
  try simp only [go_sem, wob, tb.cmds, elsD_get c _ _ h0, el1, fb3]
  (repeat (with_reducible refine And.intro ?_ ?_; (first | omega | (intro _; omega) | decide | (exact nfB) | (intro hg; refine ⟨hg, ?_⟩; omega) | (split <;> omega) | (simp; done) | (simp; omega))))
  refine hK1 _ _ ?_
  try clear hK1 K1
  refine AWp.rs fun K2 hK2 => ?_
  try simp only [go_sem, wob, tb.cmds, elsD_get c _ _ h0, el1, fb3]
  (repeat (with_reducible refine And.intro ?_ ?_; (first | omega | (intro _; omega) | decide | (exact nfB) | (intro hg; refine ⟨hg, ?_⟩; omega) | (split <;> omega) | (simp; done) | (simp; omega))))
  refine DW.acp [b] [u] rfl rfl rfl rfl (by (try simp only [go_sem, wob, tb.cmds, elsD_get c _ _ h0, el1, fb3]); rfl) rfl (wtest_c T _ tb c.test s2 1 hft _ _ _ _ (by (try simp only [List.length_cons, List.length_append, List.length_nil]); omega)) ?_
  rintro _ _ ⟨W3, fW3, rfl, rfl⟩
  try simp only [freshT, freshL, wob] at fW3
  try simp only [go_sem, wob, tb.cmds, elsD_get c _ _ h0, el1, fb3, fW3]
  (repeat (with_reducible refine And.intro ?_ ?_; (first | omega | (intro _; omega) | decide | (exact nfB) | (intro hg; refine ⟨hg, ?_⟩; omega) | (split <;> omega) | (simp; done) | (simp; omega))))
  refine hK2 _ _ ?_
  try clear hK2 K2
  refine AWp.mask [true, false, true] rfl ?_
  simp only [go_sem]
  refine AWp.rs fun K4 hK4 => ?_
  try simp only [go_sem, wob, tb.cmds, elsD_get c _ _ h0, el1, fb3, fW3]
  (repeat (with_reducible refine And.intro ?_ ?_; (first | omega | (intro _; omega) | decide | (exact nfB) | (intro hg; refine ⟨hg, ?_⟩; omega) | (split <;> omega) | (simp; done) | (simp; omega))))
  refine DW.acp [b] [W3] rfl rfl rfl rfl (by (try simp only [go_sem, wob, tb.cmds, elsD_get c _ _ h0, el1, fb3, fW3]); rfl) rfl (i1 _ _ _ _ (by (try simp only [List.length_cons, List.length_append, List.length_nil]); omega)) ?_
  rintro _ _ ⟨W5, fW5, rfl, rfl⟩
  try simp only [freshT, freshL, wob] at fW5
  try simp only [go_sem, wob, tb.cmds, elsD_get c _ _ h0, el1, fb3, fW3, fW5]
  (repeat (with_reducible refine And.intro ?_ ?_; (first | omega | (intro _; omega) | decide | (exact nfB) | (intro hg; refine ⟨hg, ?_⟩; omega) | (split <;> omega) | (simp; done) | (simp; omega))))
  refine hK4 _ _ ?_
  try clear hK4 K4
  refine AWp.mask [true, true] rfl ?_
  simp only [go_sem]
  refine AWp.block ?_
  refine AWp.rs fun K6 hK6 => ?_
  try simp only [go_sem, wob, tb.cmds, elsD_get c _ _ h0, el1, fb3, fW3, fW5]
  (repeat (with_reducible refine And.intro ?_ ?_; (first | omega | (intro _; omega) | decide | (exact nfB) | (intro hg; refine ⟨hg, ?_⟩; omega) | (split <;> omega) | (simp; done) | (simp; omega))))
  refine hK6 _ _ ?_
  try clear hK6 K6
  refine AWp.mask [true, true, true] rfl ?_
  simp only [go_sem]
  refine AWp.cond _ rfl (fun hc0 => ?_) (fun hc0 => ?_)
  · skip
    try simp only [decide_eq_true_eq, decide_eq_false_iff_not, Bool.not_eq_true', Bool.not_eq_false', Bool.and_eq_true, Bool.or_eq_true, Bool.and_eq_false_iff, Bool.or_eq_false_iff, Int.not_lt, Int.not_le, beq_iff_eq, beq_eq_false_iff_ne, ne_eq, Bool.not_eq_true, Bool.not_eq_false] at hc0
    have he : elsifC c = true := by rw [elsD_kind c h0]; simp [hc0]
    rw [elT_t c he h0] at hT hTl
    simp only [List.length_cons, List.length_append, List.length_nil] at hTl
    refine AWp.rs fun K7 hK7 => ?_
    try simp only [go_sem, wob, tb.cmds, elsD_get c _ _ h0, el1, fb3, fW3, fW5]
    (repeat (with_reducible refine And.intro ?_ ?_; (first | omega | (intro _; omega) | decide | (exact nfB) | (intro hg; refine ⟨hg, ?_⟩; omega) | (split <;> omega) | (simp; done) | (simp; omega))))
    refine DW.acp [b] [W5] rfl rfl rfl rfl (by (try simp only [go_sem, wob, tb.cmds, elsD_get c _ _ h0, el1, fb3, fW3, fW5]); rfl) rfl (put_c T _ _ _ _ _ _ _ (by (try simp only [List.length_cons, List.length_append, List.length_nil]); omega)) ?_
    rintro _ _ ⟨W8, fW8, rfl, rfl⟩
    try simp only [freshT, freshL, wob] at fW8
    try simp only [go_sem, wob, tb.cmds, elsD_get c _ _ h0, el1, fb3, fW3, fW5, fW8]
    (repeat (with_reducible refine And.intro ?_ ?_; (first | omega | (intro _; omega) | decide | (exact nfB) | (intro hg; refine ⟨hg, ?_⟩; omega) | (split <;> omega) | (simp; done) | (simp; omega))))
    refine hK7 _ _ ?_
    try clear hK7 K7
    refine AWp.rk fun K9 hK9 => ?_
    try simp only [go_sem, wob, tb.cmds, elsD_get c _ _ h0, el1, fb3, fW3, fW5, fW8]
    (repeat (with_reducible refine And.intro ?_ ?_; (first | omega | (intro _; omega) | decide | (exact nfB) | (intro hg; refine ⟨hg, ?_⟩; omega) | (split <;> omega) | (simp; done) | (simp; omega))))
    refine DW.acp [b] [W8] rfl rfl rfl rfl (by (try simp only [go_sem, wob, tb.cmds, elsD_get c _ _ h0, el1, fb3, fW3, fW5, fW8]); rfl) rfl (i3 hc0.2 _ _ _ _ (by (try simp only [List.length_cons, List.length_append, List.length_nil]); omega)) ?_
    rintro _ _ ⟨W10, fW10, rfl, rfl⟩
    try simp only [freshT, freshL, wob] at fW10
    try simp only [go_sem, wob, tb.cmds, elsD_get c _ _ h0, el1, fb3, fW3, fW5, fW8, fW10]
    (repeat (with_reducible refine And.intro ?_ ?_; (first | omega | (intro _; omega) | decide | (exact nfB) | (intro hg; refine ⟨hg, ?_⟩; omega) | (split <;> omega) | (simp; done) | (simp; omega))))
    refine hK9 _ _ ?_
    try clear hK9 K9
    refine blkQ_n ?_
    apply endW_n [b3] [] [b] [W10] (by (try simp only [go_sem, wob, tb.cmds, elsD_get c _ _ h0, el1, fb3, fW3, fW5, fW8, fW10]); rfl)
    · refine ⟨W10, by simp only [go_sem, wob, tb.cmds, elsD_get c _ _ h0, el1, fb3, fW3, fW5, fW8, fW10], rfl, ?_⟩
      (simp only [go_sem, wob, tb.cmds, elsD_get c _ _ h0, el1, fb3, fW3, fW5, fW8, fW10, tW, tG, tM, tN, tS, List.append_assoc, List.cons_append, List.nil_append, hT]; done)
    · simp only [LeA, LeL]
  · skip
    try simp only [decide_eq_true_eq, decide_eq_false_iff_not, Bool.not_eq_true', Bool.not_eq_false', Bool.and_eq_true, Bool.or_eq_true, Bool.and_eq_false_iff, Bool.or_eq_false_iff, Int.not_lt, Int.not_le, beq_iff_eq, beq_eq_false_iff_ne, ne_eq, Bool.not_eq_true, Bool.not_eq_false] at hc0
    have he : elsifC c = false := by rw [elsD_kind c h0]; rcases hc0 with h | h <;> simp [h]
    rw [elT_f c he h0] at hT hTl
    simp only [List.length_cons, List.length_append, List.length_nil] at hTl
    refine AWp.rs fun K11 hK11 => ?_
    try simp only [go_sem, wob, tb.cmds, elsD_get c _ _ h0, el1, fb3, fW3, fW5]
    (repeat (with_reducible refine And.intro ?_ ?_; (first | omega | (intro _; omega) | decide | (exact nfB) | (intro hg; refine ⟨hg, ?_⟩; omega) | (split <;> omega) | (simp; done) | (simp; omega))))
    refine hK11 _ _ ?_
    try clear hK11 K11
    refine AWp.mask [true, true, false, true] rfl ?_
    simp only [go_sem]
    refine AWp.cond _ rfl (fun hc1 => ?_) (fun hc1 => ?_)
    · skip
      try simp only [decide_eq_true_eq, decide_eq_false_iff_not, Bool.not_eq_true', Bool.not_eq_false', Bool.and_eq_true, Bool.or_eq_true, Bool.and_eq_false_iff, Bool.or_eq_false_iff, Int.not_lt, Int.not_le, beq_iff_eq, beq_eq_false_iff_ne, ne_eq, Bool.not_eq_true, Bool.not_eq_false] at hc1
      refine AWp.rs fun K12 hK12 => ?_
      try simp only [go_sem, wob, tb.cmds, elsD_get c _ _ h0, el1, fb3, fW3, fW5]
      (repeat (with_reducible refine And.intro ?_ ?_; (first | omega | (intro _; omega) | decide | (exact nfB) | (intro hg; refine ⟨hg, ?_⟩; omega) | (split <;> omega) | (simp; done) | (simp; omega))))
      refine DW.acp [b] [W5] rfl rfl rfl rfl (by (try simp only [go_sem, wob, tb.cmds, elsD_get c _ _ h0, el1, fb3, fW3, fW5]); rfl) rfl (put_c T _ _ _ _ _ _ _ (by (try simp only [List.length_cons, List.length_append, List.length_nil]); omega)) ?_
      rintro _ _ ⟨W13, fW13, rfl, rfl⟩
      try simp only [freshT, freshL, wob] at fW13
      try simp only [go_sem, wob, tb.cmds, elsD_get c _ _ h0, el1, fb3, fW3, fW5, fW13]
      (repeat (with_reducible refine And.intro ?_ ?_; (first | omega | (intro _; omega) | decide | (exact nfB) | (intro hg; refine ⟨hg, ?_⟩; omega) | (split <;> omega) | (simp; done) | (simp; omega))))
      refine hK12 _ _ ?_
      try clear hK12 K12
      refine AWp.rk fun K14 hK14 => ?_
      try simp only [go_sem, wob, tb.cmds, elsD_get c _ _ h0, el1, fb3, fW3, fW5, fW13]
      (repeat (with_reducible refine And.intro ?_ ?_; (first | omega | (intro _; omega) | decide | (exact nfB) | (intro hg; refine ⟨hg, ?_⟩; omega) | (split <;> omega) | (simp; done) | (simp; omega))))
      refine DW.acp [b] [W13] rfl rfl rfl rfl (by (try simp only [go_sem, wob, tb.cmds, elsD_get c _ _ h0, el1, fb3, fW3, fW5, fW13]); rfl) rfl (i2 _ _ _ _ (by (try simp only [List.length_cons, List.length_append, List.length_nil]); omega)) ?_
      rintro _ _ ⟨W15, fW15, rfl, rfl⟩
      try simp only [freshT, freshL, wob] at fW15
      try simp only [go_sem, wob, tb.cmds, elsD_get c _ _ h0, el1, fb3, fW3, fW5, fW13, fW15]
      (repeat (with_reducible refine And.intro ?_ ?_; (first | omega | (intro _; omega) | decide | (exact nfB) | (intro hg; refine ⟨hg, ?_⟩; omega) | (split <;> omega) | (simp; done) | (simp; omega))))
      refine hK14 _ _ ?_
      try clear hK14 K14
      refine blkQ_n ?_
      apply endW_n [b3] [] [b] [W15] (by (try simp only [go_sem, wob, tb.cmds, elsD_get c _ _ h0, el1, fb3, fW3, fW5, fW13, fW15]); rfl)
      · refine ⟨W15, by simp only [go_sem, wob, tb.cmds, elsD_get c _ _ h0, el1, fb3, fW3, fW5, fW13, fW15], rfl, ?_⟩
        (simp only [go_sem, wob, tb.cmds, elsD_get c _ _ h0, el1, fb3, fW3, fW5, fW13, fW15, tW, tG, tM, tN, tS, List.append_assoc, List.cons_append, List.nil_append, hT]; done)
      · simp only [LeA, LeL]
    · skip
      rw [decide_eq_false_iff_not] at hc1; omega
set_option maxRecDepth 4000 in
set_option maxHeartbeats 1000000 in
theorem wcmd_step (T : Tbl) (b u : Nat) (X : List Tok) (F : List (Nat × Ob)) (L : List Nat) (c : Cmd) (ok : c.Ok) (tb : Tabs T) (d : Int) (hF : cF c d = 0) (hl : X.length + (tW (tabW cmdWs c.kind) :: cmT c).length ≤ 4398046511104) (ib : c.kind = 2 → ∀ (u : Nat) (X : List Tok) (F : List (Nat × Ob)) (L : List Nat), X.length + (cmT c).length ≤ 4398046511104 → AC Tryd.prog T 110 [.ptr b 1 0 0, .agg (cmdA c)] ⟨wob b u X :: F, u :: L⟩ (WR b F L (X ++ cmT c))) : AC Tryd.prog T 57 [.ptr b 1 0 0, .agg (cmdA c)] (⟨wob b u X :: F, u :: L⟩) (WR b F L (X ++ tW (tabW cmdWs c.kind) :: cmT c)) := by
  refine ⟨Tryd.call57, ACalls.enterS Tryd.func57 rfl Tryd.ntmps57 rfl fun hb => ?_⟩
  obtain ⟨s1, s2, s3, s4, s5, s6⟩ := ok.inv
  obtain ⟨hk, _, hok⟩ := cF_ok hF
  have hkk : 1 ≤ c.kind ∧ c.kind ≤ 10 := by simpa [inB] using hk
  have hw := tab_at cmdWs c.kind (by omega) (by rw [cmdWs_len]; omega)
  simp only [List.length_cons, List.length_append, List.length_nil] at hl
  simp only [go_sem, Tryd.results57]
  refine AWp.rs fun K1 hK1 => ?_
  try simp only [go_sem, wob, tb.cmds, cmdWs_len, List.length_map, Nat.mul_one, hw]
  (repeat (with_reducible refine And.intro ?_ ?_; (first | omega | (intro _; omega) | decide | (exact nfB) | (intro hg; refine ⟨hg, ?_⟩; omega) | (split <;> omega) | (simp; done) | (simp; omega))))
  intro b3 fb3
  try simp only [freshL, wob] at fb3
  try simp only [go_sem, wob, tb.cmds, cmdWs_len, List.length_map, Nat.mul_one, hw, fb3]
  (repeat (with_reducible refine And.intro ?_ ?_; (first | omega | (intro _; omega) | decide | (exact nfB) | (intro hg; refine ⟨hg, ?_⟩; omega) | (split <;> omega) | (simp; done) | (simp; omega))))
  refine hK1 _ _ ?_
  try clear hK1 K1
  refine AWp.rs fun K2 hK2 => ?_
  try simp only [go_sem, wob, tb.cmds, cmdWs_len, List.length_map, Nat.mul_one, hw, fb3]
  (repeat (with_reducible refine And.intro ?_ ?_; (first | omega | (intro _; omega) | decide | (exact nfB) | (intro hg; refine ⟨hg, ?_⟩; omega) | (split <;> omega) | (simp; done) | (simp; omega))))
  refine DW.acp [b] [u] rfl rfl rfl rfl (by (try simp only [go_sem, wob, tb.cmds, cmdWs_len, List.length_map, Nat.mul_one, hw, fb3]); rfl) rfl (put_c T _ _ _ _ _ _ _ (by (try simp only [List.length_cons, List.length_append, List.length_nil]); omega)) ?_
  rintro _ _ ⟨W3, fW3, rfl, rfl⟩
  try simp only [freshT, freshL, wob] at fW3
  try simp only [go_sem, wob, tb.cmds, cmdWs_len, List.length_map, Nat.mul_one, hw, fb3, fW3]
  (repeat (with_reducible refine And.intro ?_ ?_; (first | omega | (intro _; omega) | decide | (exact nfB) | (intro hg; refine ⟨hg, ?_⟩; omega) | (split <;> omega) | (simp; done) | (simp; omega))))
  refine hK2 _ _ ?_
  try clear hK2 K2
  refine AWp.mask [true, false, true] rfl ?_
  simp only [go_sem]
  refine AWp.seq fun K4 hK4 => ?_
  refine AWp.rs fun K5 hK5 => ?_
  try simp only [go_sem, wob, tb.cmds, cmdWs_len, List.length_map, Nat.mul_one, hw, fb3, fW3]
  (repeat (with_reducible refine And.intro ?_ ?_; (first | omega | (intro _; omega) | decide | (exact nfB) | (intro hg; refine ⟨hg, ?_⟩; omega) | (split <;> omega) | (simp; done) | (simp; omega))))
  refine hK5 _ _ ?_
  try clear hK5 K5
  refine AWp.cond _ rfl (fun hc0 => ?_) (fun hc0 => ?_)
  · skip
    try simp only [decide_eq_true_eq, decide_eq_false_iff_not, Bool.not_eq_true', Bool.not_eq_false', Bool.and_eq_true, Bool.or_eq_true, Bool.and_eq_false_iff, Bool.or_eq_false_iff, Int.not_lt, Int.not_le, beq_iff_eq, beq_eq_false_iff_ne, ne_eq, Bool.not_eq_true, Bool.not_eq_false] at hc0
    refine AWp.rs fun K6 hK6 => ?_
    try simp only [go_sem, wob, tb.cmds, cmdWs_len, List.length_map, Nat.mul_one, hw, fb3, fW3]
    (repeat (with_reducible refine And.intro ?_ ?_; (first | omega | (intro _; omega) | decide | (exact nfB) | (intro hg; refine ⟨hg, ?_⟩; omega) | (split <;> omega) | (simp; done) | (simp; omega))))
    refine DW.acp [b] [W3] rfl rfl rfl rfl (by (try simp only [go_sem, wob, tb.cmds, cmdWs_len, List.length_map, Nat.mul_one, hw, fb3, fW3]); rfl) rfl (ib hc0 _ _ _ _ (by (try simp only [List.length_cons, List.length_append, List.length_nil]); omega)) ?_
    rintro _ _ ⟨W7, fW7, rfl, rfl⟩
    try simp only [freshT, freshL, wob] at fW7
    try simp only [go_sem, wob, tb.cmds, cmdWs_len, List.length_map, Nat.mul_one, hw, fb3, fW3, fW7]
    (repeat (with_reducible refine And.intro ?_ ?_; (first | omega | (intro _; omega) | decide | (exact nfB) | (intro hg; refine ⟨hg, ?_⟩; omega) | (split <;> omega) | (simp; done) | (simp; omega))))
    refine hK6 _ _ ?_
    try clear hK6 K6
    refine AWp.mask [] rfl ?_
    simp only [go_sem]
    refine AWp.ret ?_
    apply endW_r [b3] [] [b] [W7] (by (try simp only [go_sem, wob, tb.cmds, cmdWs_len, List.length_map, Nat.mul_one, hw, fb3, fW3, fW7]); rfl)
    · refine ⟨W7, by simp only [go_sem, wob, tb.cmds, cmdWs_len, List.length_map, Nat.mul_one, hw, fb3, fW3, fW7], rfl, ?_⟩
      first | (simp only [go_sem, wob, tb.cmds, cmdWs_len, List.length_map, Nat.mul_one, hw, fb3, fW3, fW7, tW, tG, tM, tN, tS, List.append_assoc, List.cons_append, List.nil_append, hT]; done) | (simp only [go_sem, wob, tb.cmds, cmdWs_len, List.length_map, Nat.mul_one, hw, fb3, fW3, fW7, tW, tG, tM, tN, tS, List.append_assoc, List.cons_append, List.nil_append]; done)
    · simp only [LeA, LeL]
  · skip
    try simp only [decide_eq_true_eq, decide_eq_false_iff_not, Bool.not_eq_true', Bool.not_eq_false', Bool.and_eq_true, Bool.or_eq_true, Bool.and_eq_false_iff, Bool.or_eq_false_iff, Int.not_lt, Int.not_le, beq_iff_eq, beq_eq_false_iff_ne, ne_eq, Bool.not_eq_true, Bool.not_eq_false] at hc0
    have hT : cmT c = (if 0 < c.texts.length then strsT c.texts else []) ++ [tM [59]] := by rw [cmT_eq, if_neg hc0]
    refine AWp.skip ?_
    refine thenQ_n ?_
    refine hK4 _ _ ?_
    try clear hK4 K4
    refine AWp.seq fun K8 hK8 => ?_
    refine AWp.rs fun K9 hK9 => ?_
    try simp only [go_sem, wob, tb.cmds, cmdWs_len, List.length_map, Nat.mul_one, hw, fb3, fW3]
    (repeat (with_reducible refine And.intro ?_ ?_; (first | omega | (intro _; omega) | decide | (exact nfB) | (intro hg; refine ⟨hg, ?_⟩; omega) | (split <;> omega) | (simp; done) | (simp; omega))))
    refine hK9 _ _ ?_
    try clear hK9 K9
    refine AWp.mask [true, true, false, false, false, false, false, false, true] rfl ?_
    simp only [go_sem]
    refine AWp.cond _ rfl (fun hc1 => ?_) (fun hc1 => ?_)
    · skip
      try simp only [decide_eq_true_eq, decide_eq_false_iff_not, Bool.not_eq_true', Bool.not_eq_false', Bool.and_eq_true, Bool.or_eq_true, Bool.and_eq_false_iff, Bool.or_eq_false_iff, Int.not_lt, Int.not_le, beq_iff_eq, beq_eq_false_iff_ne, ne_eq, Bool.not_eq_true, Bool.not_eq_false] at hc1
      rw [if_pos (by omega)] at hT
      have hTl := congrArg List.length hT
      simp only [List.length_cons, List.length_append, List.length_nil] at hTl
      refine AWp.rk fun K10 hK10 => ?_
      try simp only [go_sem, wob, tb.cmds, cmdWs_len, List.length_map, Nat.mul_one, hw, fb3, fW3]
      (repeat (with_reducible refine And.intro ?_ ?_; (first | omega | (intro _; omega) | decide | (exact nfB) | (intro hg; refine ⟨hg, ?_⟩; omega) | (split <;> omega) | (simp; done) | (simp; omega))))
      refine DW.acp [b] [W3] rfl rfl rfl rfl (by (try simp only [go_sem, wob, tb.cmds, cmdWs_len, List.length_map, Nat.mul_one, hw, fb3, fW3]); rfl) rfl (list_c T _ _ _ _ _ _ (by (try simp only [List.length_append, List.length_cons, List.length_nil]); omega)) ?_
      rintro _ _ ⟨W11, fW11, rfl, rfl⟩
      try simp only [freshT, freshL, wob] at fW11
      try simp only [go_sem, wob, tb.cmds, cmdWs_len, List.length_map, Nat.mul_one, hw, fb3, fW3, fW11]
      (repeat (with_reducible refine And.intro ?_ ?_; (first | omega | (intro _; omega) | decide | (exact nfB) | (intro hg; refine ⟨hg, ?_⟩; omega) | (split <;> omega) | (simp; done) | (simp; omega))))
      refine hK10 _ _ ?_
      try clear hK10 K10
      refine thenQ_n ?_
      refine hK8 _ _ ?_
      try clear hK8 K8
      refine AWp.mask [true] rfl ?_
      simp only [go_sem]
      refine AWp.rk fun K12 hK12 => ?_
      try simp only [go_sem, wob, tb.cmds, cmdWs_len, List.length_map, Nat.mul_one, hw, fb3, fW3, fW11]
      (repeat (with_reducible refine And.intro ?_ ?_; (first | omega | (intro _; omega) | decide | (exact nfB) | (intro hg; refine ⟨hg, ?_⟩; omega) | (split <;> omega) | (simp; done) | (simp; omega))))
      refine DW.acp [b] [W11] rfl rfl rfl rfl (by (try simp only [go_sem, wob, tb.cmds, cmdWs_len, List.length_map, Nat.mul_one, hw, fb3, fW3, fW11]); rfl) rfl (put_c T _ _ _ _ _ _ _ (by (try simp only [List.length_cons, List.length_append, List.length_nil]); omega)) ?_
      rintro _ _ ⟨W13, fW13, rfl, rfl⟩
      try simp only [freshT, freshL, wob] at fW13
      try simp only [go_sem, wob, tb.cmds, cmdWs_len, List.length_map, Nat.mul_one, hw, fb3, fW3, fW11, fW13]
      (repeat (with_reducible refine And.intro ?_ ?_; (first | omega | (intro _; omega) | decide | (exact nfB) | (intro hg; refine ⟨hg, ?_⟩; omega) | (split <;> omega) | (simp; done) | (simp; omega))))
      refine hK12 _ _ ?_
      try clear hK12 K12
      apply endW_n [b3] [] [b] [W13] (by (try simp only [go_sem, wob, tb.cmds, cmdWs_len, List.length_map, Nat.mul_one, hw, fb3, fW3, fW11, fW13]); rfl)
      · refine ⟨W13, by simp only [go_sem, wob, tb.cmds, cmdWs_len, List.length_map, Nat.mul_one, hw, fb3, fW3, fW11, fW13], rfl, ?_⟩
        first | (simp only [go_sem, wob, tb.cmds, cmdWs_len, List.length_map, Nat.mul_one, hw, fb3, fW3, fW11, fW13, tW, tG, tM, tN, tS, List.append_assoc, List.cons_append, List.nil_append, hT]; done) | (simp only [go_sem, wob, tb.cmds, cmdWs_len, List.length_map, Nat.mul_one, hw, fb3, fW3, fW11, fW13, tW, tG, tM, tN, tS, List.append_assoc, List.cons_append, List.nil_append]; done)
      · simp only [LeA, LeL]
    · skip
      try simp only [decide_eq_true_eq, decide_eq_false_iff_not, Bool.not_eq_true', Bool.not_eq_false', Bool.and_eq_true, Bool.or_eq_true, Bool.and_eq_false_iff, Bool.or_eq_false_iff, Int.not_lt, Int.not_le, beq_iff_eq, beq_eq_false_iff_ne, ne_eq, Bool.not_eq_true, Bool.not_eq_false] at hc1
      rw [if_neg (by omega)] at hT
      have hTl := congrArg List.length hT
      simp only [List.length_cons, List.length_append, List.length_nil] at hTl
      refine AWp.skip ?_
      refine thenQ_n ?_
      refine hK8 _ _ ?_
      try clear hK8 K8
      refine AWp.rk fun K14 hK14 => ?_
      try simp only [go_sem, wob, tb.cmds, cmdWs_len, List.length_map, Nat.mul_one, hw, fb3, fW3]
      (repeat (with_reducible refine And.intro ?_ ?_; (first | omega | (intro _; omega) | decide | (exact nfB) | (intro hg; refine ⟨hg, ?_⟩; omega) | (split <;> omega) | (simp; done) | (simp; omega))))
      refine DW.acp [b] [W3] rfl rfl rfl rfl (by (try simp only [go_sem, wob, tb.cmds, cmdWs_len, List.length_map, Nat.mul_one, hw, fb3, fW3]); rfl) rfl (put_c T _ _ _ _ _ _ _ (by (try simp only [List.length_cons, List.length_append, List.length_nil]); omega)) ?_
      rintro _ _ ⟨W15, fW15, rfl, rfl⟩
      try simp only [freshT, freshL, wob] at fW15
      try simp only [go_sem, wob, tb.cmds, cmdWs_len, List.length_map, Nat.mul_one, hw, fb3, fW3, fW15]
      (repeat (with_reducible refine And.intro ?_ ?_; (first | omega | (intro _; omega) | decide | (exact nfB) | (intro hg; refine ⟨hg, ?_⟩; omega) | (split <;> omega) | (simp; done) | (simp; omega))))
      refine hK14 _ _ ?_
      try clear hK14 K14
      apply endW_n [b3] [] [b] [W15] (by (try simp only [go_sem, wob, tb.cmds, cmdWs_len, List.length_map, Nat.mul_one, hw, fb3, fW3, fW15]); rfl)
      · refine ⟨W15, by simp only [go_sem, wob, tb.cmds, cmdWs_len, List.length_map, Nat.mul_one, hw, fb3, fW3, fW15], rfl, ?_⟩
        first | (simp only [go_sem, wob, tb.cmds, cmdWs_len, List.length_map, Nat.mul_one, hw, fb3, fW3, fW15, tW, tG, tM, tN, tS, List.append_assoc, List.cons_append, List.nil_append, hT]; done) | (simp only [go_sem, wob, tb.cmds, cmdWs_len, List.length_map, Nat.mul_one, hw, fb3, fW3, fW15, tW, tG, tM, tN, tS, List.append_assoc, List.cons_append, List.nil_append]; done)
      · simp only [LeA, LeL]
theorem wbranch_c (T : Tbl) (b : Nat) (tb : Tabs T) (c : Cmd) (ok : c.Ok) (d : Int) (hF : cF c d = 0) : (c.kind = 2 → ∀ (u : Nat) (X : List Tok) (F : List (Nat × Ob)) (L : List Nat), X.length + (cmT c).length ≤ 4398046511104 → AC Tryd.prog T 110 [.ptr b 1 0 0, .agg (cmdA c)] ⟨wob b u X :: F, u :: L⟩ (WR b F L (X ++ cmT c))) ∧ (∀ (u : Nat) (X : List Tok) (F : List (Nat × Ob)) (L : List Nat), X.length + (tW (tabW cmdWs c.kind) :: cmT c).length ≤ 4398046511104 → AC Tryd.prog T 57 [.ptr b 1 0 0, .agg (cmdA c)] ⟨wob b u X :: F, u :: L⟩ (WR b F L (X ++ tW (tabW cmdWs c.kind) :: cmT c))) := by
  induction c using Cmd.ind generalizing d with
  | h c i1 i2 =>
    obtain ⟨s1, s2, s3, s4, s5, s6⟩ := ok.inv
    obtain ⟨hk, hok, _⟩ := cF_ok hF
    have hb : c.kind = 2 → ∀ (u : Nat) (X : List Tok) (F : List (Nat × Ob)) (L : List Nat), X.length + (cmT c).length ≤ 4398046511104 → AC Tryd.prog T 110 [.ptr b 1 0 0, .agg (cmdA c)] ⟨wob b u X :: F, u :: L⟩ (WR b F L (X ++ cmT c)) := fun h2 u X F L hl => by
      obtain ⟨hft, ha, hb, hc⟩ := hok h2
      have j1 : ∀ (u : Nat) (X : List Tok) (F : List (Nat × Ob)) (L : List Nat), X.length + (tM [123] :: (lsT c.thn ++ [tM [125]])).length ≤ 4398046511104 → AC Tryd.prog T 175 [.ptr b 1 0 0, .d (.slc 12 (thnD c))] ⟨wob b u X :: F, u :: L⟩ (WR b F L (X ++ tM [123] :: (lsT c.thn ++ [tM [125]]))) := by
        rw [thnD_eq]
        exact fun u X F L hl => wblock_step T b u X F L c.thn s3 hl fun x hx => (i1 x hx (s5 x hx) (d + 1) (ha x hx)).2
      have j2 : ∀ (u : Nat) (X : List Tok) (F : List (Nat × Ob)) (L : List Nat), X.length + (tM [123] :: (lsT c.els ++ [tM [125]])).length ≤ 4398046511104 → AC Tryd.prog T 175 [.ptr b 1 0 0, .d (.slc 12 (elsD c))] ⟨wob b u X :: F, u :: L⟩ (WR b F L (X ++ tM [123] :: (lsT c.els ++ [tM [125]]))) := by
        rw [elsD_eq]
        refine fun u X F L hl => wblock_step T b u X F L c.els s4 hl fun x hx => ?_
        cases he : elsifC c with
        | true => exact (i2 x hx (s6 x hx) d (hb he x hx)).2
        | false => exact (i2 x hx (s6 x hx) (d + 1) (hc he x hx)).2
      rcases Nat.eq_zero_or_pos c.els.length with h0 | h0
      · exact wbranch_0 T b u X F L c ok h0 tb h2 d hF hl j1 j2
      · refine wbranch_1 T b u X F L c ok h0 tb h2 d hF hl j1 j2 fun h3 => ?_
        have hm := List.getElem_mem h0
        cases he : elsifC c with
        | true => exact (i2 _ hm (s6 _ hm) d (hb he _ hm)).1 h3
        | false => exact (i2 _ hm (s6 _ hm) (d + 1) (hc he _ hm)).1 h3
    exact ⟨hb, fun u X F L hl => wcmd_step T b u X F L c ok tb d hF hl hb⟩
end Go.Proofs.YtnoboapafndnlaaDoor

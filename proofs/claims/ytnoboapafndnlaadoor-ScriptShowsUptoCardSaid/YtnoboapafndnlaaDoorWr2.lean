/- The writer: tests. -/
import Derived.Test.YtnoboapafndnlaaDoorWr
namespace Go.Proofs.YtnoboapafndnlaaDoor
set_option linter.unusedSimpArgs false
set_option linter.unusedVariables false
theorem okS_inv (t : Tst) (h : okS t = true) : (t.kind = 3 → t.kids.length = 1) ∧ (inB t.kind 4 5 = true → 0 < t.kids.length) ∧ (inB t.kind 6 8 = true → 0 < t.names.length ∧ 0 < t.keys.length ∧ 1 ≤ t.mat ∧ t.mat ≤ 3) ∧ (inB t.kind 7 8 = true → 1 ≤ t.part ∧ t.part ≤ 3) ∧ (t.kind = 9 → 0 < t.names.length) ∧
  (inB t.kind 3 5 = false → t.kids.length = 0) ∧ (t.kind = 6 → t.part = 0) ∧ (inB t.kind 6 8 = false → t.mat = 0 ∧ t.part = 0 ∧ t.keys.length = 0) ∧ (inB t.kind 6 8 = false → t.kind ≠ 9 → t.names.length = 0) := by
  simp only [okS, bareB, inB, Bool.and_eq_true, Bool.or_eq_true, Bool.not_eq_true', decide_eq_true_eq, decide_eq_false_iff_not, Bool.and_eq_false_iff] at h ⊢
  refine ⟨?_, ?_, ?_, ?_, ?_, ?_, ?_, ?_, ?_⟩ <;> intro a <;> first | omega | grind (splits := 30)
set_option maxRecDepth 4000 in
set_option maxHeartbeats 1000000 in
theorem wtest_step (T : Tbl) (b u : Nat) (X : List Tok) (F : List (Nat × Ob)) (L : List Nat) (t : Tst) (ok : t.Ok) (tb : Tabs T) (d : Int) (hF : tF t d = 0) (hl : X.length + (tT t).length ≤ 4398046511104) (ih : ∀ x ∈ t.kids, ∀ (u : Nat) (X : List Tok) (F : List (Nat × Ob)) (L : List Nat), X.length + (tT x).length ≤ 4398046511104 → AC Tryd.prog T 174 [.ptr b 1 0 0, .agg (tstA x)] ⟨wob b u X :: F, u :: L⟩ (WR b F L (X ++ tT x))) : AC Tryd.prog T 174 [.ptr b 1 0 0, .agg (tstA t)] (⟨wob b u X :: F, u :: L⟩) (WR b F L (X ++ tT t)) := by
  refine ⟨Tryd.call174, ACalls.enterS Tryd.func174 rfl Tryd.ntmps174 rfl fun hb => ?_⟩
  obtain ⟨s1, s2, s3, s4⟩ := ok.inv
  obtain ⟨hk, hO, hK⟩ := tF_ok hF
  obtain ⟨o1, o2, o3, o4, o5, o6, o7, o8, o9⟩ := okS_inv t hO
  have hkk : 1 ≤ t.kind ∧ t.kind ≤ 10 := by simpa [inB] using hk
  have hw := tab_at tstWs t.kind (by omega) (by rw [tstWs_len]; omega)
  have h1 : 0 < (tT t).length := by rw [tT_eq]; simp
  simp only [go_sem, Tryd.results174]
  refine AWp.rs fun K1 hK1 => ?_
  try simp only [go_sem, wob, tb.tests, tb.mats, tb.parts, List.length_map, tstWs_len, matWs_len, parWs_len, hw, Nat.mul_one]
  (repeat (with_reducible refine And.intro ?_ ?_; (first | omega | (intro _; omega) | decide | (exact nfB) | (intro hg; refine ⟨hg, ?_⟩; omega) | (split <;> omega) | (simp; done) | (simp; omega))))
  intro b3 fb3
  try simp only [freshL, wob] at fb3
  try simp only [go_sem, wob, tb.tests, tb.mats, tb.parts, List.length_map, tstWs_len, matWs_len, parWs_len, hw, Nat.mul_one, fb3]
  (repeat (with_reducible refine And.intro ?_ ?_; (first | omega | (intro _; omega) | decide | (exact nfB) | (intro hg; refine ⟨hg, ?_⟩; omega) | (split <;> omega) | (simp; done) | (simp; omega))))
  refine hK1 _ _ ?_
  try clear hK1 K1
  refine AWp.rs fun K2 hK2 => ?_
  try simp only [go_sem, wob, tb.tests, tb.mats, tb.parts, List.length_map, tstWs_len, matWs_len, parWs_len, hw, Nat.mul_one, fb3]
  (repeat (with_reducible refine And.intro ?_ ?_; (first | omega | (intro _; omega) | decide | (exact nfB) | (intro hg; refine ⟨hg, ?_⟩; omega) | (split <;> omega) | (simp; done) | (simp; omega))))
  refine DW.acp [b] [u] rfl rfl rfl rfl (by (try simp only [go_sem, wob, tb.tests, tb.mats, tb.parts, List.length_map, tstWs_len, matWs_len, parWs_len, hw, Nat.mul_one, fb3]); rfl) rfl (put_c T _ _ _ _ _ _ _ (by (try simp only [List.length_append, List.length_cons, List.length_nil]); omega)) ?_
  rintro _ _ ⟨W3, fW3, rfl, rfl⟩
  try simp only [freshT, freshL, wob] at fW3
  try simp only [go_sem, wob, tb.tests, tb.mats, tb.parts, List.length_map, tstWs_len, matWs_len, parWs_len, hw, Nat.mul_one, fb3, fW3]
  (repeat (with_reducible refine And.intro ?_ ?_; (first | omega | (intro _; omega) | decide | (exact nfB) | (intro hg; refine ⟨hg, ?_⟩; omega) | (split <;> omega) | (simp; done) | (simp; omega))))
  refine hK2 _ _ ?_
  try clear hK2 K2
  refine AWp.mask [true, false, true] rfl ?_
  simp only [go_sem]
  refine AWp.rs fun K4 hK4 => ?_
  try simp only [go_sem, wob, tb.tests, tb.mats, tb.parts, List.length_map, tstWs_len, matWs_len, parWs_len, hw, Nat.mul_one, fb3, fW3]
  (repeat (with_reducible refine And.intro ?_ ?_; (first | omega | (intro _; omega) | decide | (exact nfB) | (intro hg; refine ⟨hg, ?_⟩; omega) | (split <;> omega) | (simp; done) | (simp; omega))))
  refine hK4 _ _ ?_
  try clear hK4 K4
  refine AWp.block ?_
  refine AWp.rs fun K5 hK5 => ?_
  try simp only [go_sem, wob, tb.tests, tb.mats, tb.parts, List.length_map, tstWs_len, matWs_len, parWs_len, hw, Nat.mul_one, fb3, fW3]
  (repeat (with_reducible refine And.intro ?_ ?_; (first | omega | (intro _; omega) | decide | (exact nfB) | (intro hg; refine ⟨hg, ?_⟩; omega) | (split <;> omega) | (simp; done) | (simp; omega))))
  refine hK5 _ _ ?_
  try clear hK5 K5
  refine AWp.cond _ rfl (fun hc0 => ?_) (fun hc0 => ?_)
  · skip
    try simp only [decide_eq_true_eq, decide_eq_false_iff_not, Bool.not_eq_true', Bool.not_eq_false', Bool.and_eq_true, Bool.or_eq_true, Bool.and_eq_false_iff, Bool.or_eq_false_iff, Int.not_lt, Int.not_le, beq_iff_eq, beq_eq_false_iff_ne, ne_eq, Bool.not_eq_true, Bool.not_eq_false] at hc0
    have h0 : 0 < t.kids.length := by rw [o1 hc0]; omega
    have hT : tT t = tW (tabW tstWs t.kind) :: tT (t.kids[0]'h0) := by rw [tT_eq, if_pos hc0, tK_eq]
    have hTl := congrArg List.length hT
    simp only [List.length_cons, List.length_append, List.length_nil] at hTl
    refine AWp.rk fun K6 hK6 => ?_
    try simp only [go_sem, wob, tb.tests, tb.mats, tb.parts, List.length_map, tstWs_len, matWs_len, parWs_len, hw, Nat.mul_one, fb3, fW3, kidsD_get t 0 _ h0]
    (repeat (with_reducible refine And.intro ?_ ?_; (first | omega | (intro _; omega) | decide | (exact nfB) | (intro hg; refine ⟨hg, ?_⟩; omega) | (split <;> omega) | (simp; done) | (simp; omega))))
    refine DW.acp [b] [W3] rfl rfl rfl rfl (by (try simp only [go_sem, wob, tb.tests, tb.mats, tb.parts, List.length_map, tstWs_len, matWs_len, parWs_len, hw, Nat.mul_one, fb3, fW3, kidsD_get t 0 _ h0]); rfl) rfl (ih _ (List.getElem_mem h0) _ _ _ _ (by (try simp only [List.length_append, List.length_cons, List.length_nil]); omega)) ?_
    rintro _ _ ⟨W7, fW7, rfl, rfl⟩
    try simp only [freshT, freshL, wob] at fW7
    try simp only [go_sem, wob, tb.tests, tb.mats, tb.parts, List.length_map, tstWs_len, matWs_len, parWs_len, hw, Nat.mul_one, fb3, fW3, kidsD_get t 0 _ h0, fW7]
    (repeat (with_reducible refine And.intro ?_ ?_; (first | omega | (intro _; omega) | decide | (exact nfB) | (intro hg; refine ⟨hg, ?_⟩; omega) | (split <;> omega) | (simp; done) | (simp; omega))))
    refine hK6 _ _ ?_
    try clear hK6 K6
    refine blkQ_n ?_
    apply endW_n [b3] [] [b] [W7] (by (try simp only [go_sem, wob, tb.tests, tb.mats, tb.parts, List.length_map, tstWs_len, matWs_len, parWs_len, hw, Nat.mul_one, fb3, fW3, kidsD_get t 0 _ h0, fW7]); rfl)
    · refine ⟨W7, by simp only [go_sem, wob, tb.tests, tb.mats, tb.parts, List.length_map, tstWs_len, matWs_len, parWs_len, hw, Nat.mul_one, fb3, fW3, kidsD_get t 0 _ h0, fW7], rfl, ?_⟩
      first | (simp only [go_sem, wob, tb.tests, tb.mats, tb.parts, List.length_map, tstWs_len, matWs_len, parWs_len, hw, Nat.mul_one, fb3, fW3, kidsD_get t 0 _ h0, fW7, hT, tW, tG, tM, tN, tS, List.append_assoc, List.cons_append, List.nil_append, hY]; done) | (simp only [go_sem, wob, tb.tests, tb.mats, tb.parts, List.length_map, tstWs_len, matWs_len, parWs_len, hw, Nat.mul_one, fb3, fW3, kidsD_get t 0 _ h0, fW7, hT, tW, tG, tM, tN, tS, List.append_assoc, List.cons_append, List.nil_append]; done) | (simp only [go_sem, wob, tb.tests, tb.mats, tb.parts, List.length_map, tstWs_len, matWs_len, parWs_len, hw, Nat.mul_one, fb3, fW3, kidsD_get t 0 _ h0, fW7, hT, tW, tG, tM, tN, tS, List.append_assoc, List.cons_append, List.nil_append, toksD, List.map_append, List.map_cons, List.map_nil, tokD]; done)
    · simp only [LeA, LeL]
  · skip
    try simp only [decide_eq_true_eq, decide_eq_false_iff_not, Bool.not_eq_true', Bool.not_eq_false', Bool.and_eq_true, Bool.or_eq_true, Bool.and_eq_false_iff, Bool.or_eq_false_iff, Int.not_lt, Int.not_le, beq_iff_eq, beq_eq_false_iff_ne, ne_eq, Bool.not_eq_true, Bool.not_eq_false] at hc0
    refine AWp.seq fun K8 hK8 => ?_
    refine AWp.rs fun K9 hK9 => ?_
    try simp only [go_sem, wob, tb.tests, tb.mats, tb.parts, List.length_map, tstWs_len, matWs_len, parWs_len, hw, Nat.mul_one, fb3, fW3]
    (repeat (with_reducible refine And.intro ?_ ?_; (first | omega | (intro _; omega) | decide | (exact nfB) | (intro hg; refine ⟨hg, ?_⟩; omega) | (split <;> omega) | (simp; done) | (simp; omega))))
    refine hK9 _ _ ?_
    try clear hK9 K9
    refine AWp.mask [true, true, false, true, false, false, true] rfl ?_
    simp only [go_sem]
    apply AWp.boK (z := (_ || _)) hK8 [true, true, true] 22
    · skip
      refine AWp.cond _ rfl (fun hc1 => ?_) (fun hc1 => ?_)
      rotate_left
      · skip
        refine AWp.rk fun K10 hK10 => ?_
        try simp only [go_sem, wob, tb.tests, tb.mats, tb.parts, List.length_map, tstWs_len, matWs_len, parWs_len, hw, Nat.mul_one, fb3, fW3]
        (repeat (with_reducible refine And.intro ?_ ?_; (first | omega | (intro _; omega) | decide | (exact nfB) | (intro hg; refine ⟨hg, ?_⟩; omega) | (split <;> omega) | (simp; done) | (simp; omega))))
        refine hK10 _ _ ?_
        try clear hK10 K10
        refine thenQ_n ?_
        refine EndS.mkr [true, true, true] [false, false, false, true] rfl ?_ ?_
        · (try simp only [go_sem, wob, tb.tests, tb.mats, tb.parts, List.length_map, tstWs_len, matWs_len, parWs_len, hw, Nat.mul_one, fb3, fW3]) <;> try rfl
        exact .e ⟨EqS.bo (or_f hc1 rfl), ⟨rfl⟩⟩
      · skip
        refine AWp.skip ?_
        refine thenQ_n ?_
        refine EndS.mkr [true, true, true] [false, false, false, true] rfl ?_ ?_
        · (try simp only [go_sem, wob, tb.tests, tb.mats, tb.parts, List.length_map, tstWs_len, matWs_len, parWs_len, hw, Nat.mul_one, fb3, fW3]) <;> try rfl
        exact .e ⟨EqS.bo (or_t hc1), ⟨rfl⟩⟩
    · skip
      simp only [go_sem]
      refine AWp.cond _ rfl (fun hc2 => ?_) (fun hc2 => ?_)
      · skip
        try simp only [decide_eq_true_eq, decide_eq_false_iff_not, Bool.not_eq_true', Bool.not_eq_false', Bool.and_eq_true, Bool.or_eq_true, Bool.and_eq_false_iff, Bool.or_eq_false_iff, Int.not_lt, Int.not_le, beq_iff_eq, beq_eq_false_iff_ne, ne_eq, Bool.not_eq_true, Bool.not_eq_false] at hc2
        have e45 : inB t.kind 4 5 = true := by simp [inB]; omega
        have h0 := o2 e45
        have hT : tT t = tW (tabW tstWs t.kind) :: (tTL t.kids true ++ [tM [41]]) := by rw [tT_eq, if_neg (by omega), if_pos e45]
        have hTl := congrArg List.length hT
        simp only [List.length_cons, List.length_append, List.length_nil] at hTl
        refine AWp.seq fun K11 hK11 => ?_
        refine AWp.rs fun K12 hK12 => ?_
        try simp only [go_sem, wob, tb.tests, tb.mats, tb.parts, List.length_map, tstWs_len, matWs_len, parWs_len, hw, Nat.mul_one, fb3, fW3]
        (repeat (with_reducible refine And.intro ?_ ?_; (first | omega | (intro _; omega) | decide | (exact nfB) | (intro hg; refine ⟨hg, ?_⟩; omega) | (split <;> omega) | (simp; done) | (simp; omega))))
        refine hK12 _ _ ?_
        try clear hK12 K12
        refine AWp.mask [true, false, false, false, false, true, true, true] rfl ?_
        simp only [go_sem]
        refine AWp.block ?_
        refine AWp.loopS [true, true, true] [false, false, false, true] (fun n lc hc => ∃ (k v : Nat) (Y : List Tok), n = t.kids.length - k ∧ EqS lc [(28, .d (.int .i64 k))] ∧ EqS hc (⟨[wob b v Y, (b3, ⟨8, 1, [tstA t]⟩)] ++ F, v :: L⟩) ∧ (k ≤ t.kids.length) ∧ (Y ++ tTL (t.kids.drop k) (decide (k = 0)) = X ++ tW (tabW tstWs t.kind) :: tTL t.kids true)) rfl ?_ ?_
        · refine ⟨_, 0, W3, X ++ [⟨1, tabW tstWs t.kind, 0⟩], rfl, ?_, ?_, ?_, ?_⟩
          · (try simp only [go_sem, wob, tb.tests, tb.mats, tb.parts, List.length_map, tstWs_len, matWs_len, parWs_len, hw, Nat.mul_one, fb3, fW3]) <;> first | exact ⟨rfl⟩ | (constructor; simp; done)
          · (try simp only [go_sem, wob, tb.tests, tb.mats, tb.parts, List.length_map, tstWs_len, matWs_len, parWs_len, hw, Nat.mul_one, fb3, fW3]) <;> first | exact ⟨rfl⟩ | (constructor; simp; done)
          all_goals (first | omega | (simp [tW]; done))
        · rintro _ _ _ ⟨k, v, Y, rfl, ⟨rfl⟩, ⟨rfl⟩, hk, hY⟩
          have hYl := congrArg List.length hY
          simp only [List.length_append, List.length_cons] at hYl
          simp only [go_sem]
          refine AWp.rs fun K13 hK13 => ?_
          try simp only [go_sem, wob, tb.tests, tb.mats, tb.parts, List.length_map, tstWs_len, matWs_len, parWs_len, hw, Nat.mul_one, fb3, fW3]
          (repeat (with_reducible refine And.intro ?_ ?_; (first | omega | (intro _; omega) | decide | (exact nfB) | (intro hg; refine ⟨hg, ?_⟩; omega) | (split <;> omega) | (simp; done) | (simp; omega))))
          refine hK13 _ _ ?_
          try clear hK13 K13
          refine AWp.seq fun K14 hK14 => ?_
          refine AWp.cond _ rfl (fun hc3 => ?_) (fun hc3 => ?_)
          · skip
            try simp only [decide_eq_true_eq, decide_eq_false_iff_not, Bool.not_eq_true', Bool.not_eq_false', Bool.and_eq_true, Bool.or_eq_true, Bool.and_eq_false_iff, Bool.or_eq_false_iff, Int.not_lt, Int.not_le, beq_iff_eq, beq_eq_false_iff_ne, ne_eq, Bool.not_eq_true, Bool.not_eq_false] at hc3
            have hlt : k < t.kids.length := by omega
            rw [tTL_drop _ _ _ hlt] at hYl
            simp only [List.length_append, List.length_cons] at hYl
            refine AWp.skip ?_
            refine thenQ_n ?_
            refine hK14 _ _ ?_
            try clear hK14 K14
            refine AWp.seq fun K15 hK15 => ?_
            refine AWp.block ?_
            refine AWp.rs fun K16 hK16 => ?_
            try simp only [go_sem, wob, tb.tests, tb.mats, tb.parts, List.length_map, tstWs_len, matWs_len, parWs_len, hw, Nat.mul_one, fb3, fW3, kidsD_get t k _ hlt]
            (repeat (with_reducible refine And.intro ?_ ?_; (first | omega | (intro _; omega) | decide | (exact nfB) | (intro hg; refine ⟨hg, ?_⟩; omega) | (split <;> omega) | (simp; done) | (simp; omega))))
            intro b17 fb17
            try simp only [freshL, wob] at fb17
            try simp only [go_sem, wob, tb.tests, tb.mats, tb.parts, List.length_map, tstWs_len, matWs_len, parWs_len, hw, Nat.mul_one, fb3, fW3, kidsD_get t k _ hlt, fb17]
            (repeat (with_reducible refine And.intro ?_ ?_; (first | omega | (intro _; omega) | decide | (exact nfB) | (intro hg; refine ⟨hg, ?_⟩; omega) | (split <;> omega) | (simp; done) | (simp; omega))))
            refine hK16 _ _ ?_
            try clear hK16 K16
            refine AWp.mask [true, true, true, true, true, true] rfl ?_
            simp only [go_sem]
            refine AWp.rs fun K18 hK18 => ?_
            try simp only [go_sem, wob, tb.tests, tb.mats, tb.parts, List.length_map, tstWs_len, matWs_len, parWs_len, hw, Nat.mul_one, fb3, fW3, kidsD_get t k _ hlt, fb17]
            (repeat (with_reducible refine And.intro ?_ ?_; (first | omega | (intro _; omega) | decide | (exact nfB) | (intro hg; refine ⟨hg, ?_⟩; omega) | (split <;> omega) | (simp; done) | (simp; omega))))
            refine DW.pcr rfl rfl rfl rfl (flag_c T _) rfl rfl ?_
            try simp only [go_sem, wob, tb.tests, tb.mats, tb.parts, List.length_map, tstWs_len, matWs_len, parWs_len, hw, Nat.mul_one, fb3, fW3, kidsD_get t k _ hlt, fb17]
            (repeat (with_reducible refine And.intro ?_ ?_; (first | omega | (intro _; omega) | decide | (exact nfB) | (intro hg; refine ⟨hg, ?_⟩; omega) | (split <;> omega) | (simp; done) | (simp; omega))))
            refine DW.acp [b] [v] rfl rfl rfl rfl (by (try simp only [go_sem, wob, tb.tests, tb.mats, tb.parts, List.length_map, tstWs_len, matWs_len, parWs_len, hw, Nat.mul_one, fb3, fW3, kidsD_get t k _ hlt, fb17]); rfl) rfl (put_c T _ _ _ _ _ _ _ (by (try simp only [List.length_append, List.length_cons, List.length_nil]); omega)) ?_
            rintro _ _ ⟨W19, fW19, rfl, rfl⟩
            try simp only [freshT, freshL, wob] at fW19
            try simp only [go_sem, wob, tb.tests, tb.mats, tb.parts, List.length_map, tstWs_len, matWs_len, parWs_len, hw, Nat.mul_one, fb3, fW3, kidsD_get t k _ hlt, fb17, fW19]
            (repeat (with_reducible refine And.intro ?_ ?_; (first | omega | (intro _; omega) | decide | (exact nfB) | (intro hg; refine ⟨hg, ?_⟩; omega) | (split <;> omega) | (simp; done) | (simp; omega))))
            refine hK18 _ _ ?_
            try clear hK18 K18
            refine AWp.mask [true, false, true, true, true, true] rfl ?_
            simp only [go_sem]
            refine AWp.rk fun K20 hK20 => ?_
            try simp only [go_sem, wob, tb.tests, tb.mats, tb.parts, List.length_map, tstWs_len, matWs_len, parWs_len, hw, Nat.mul_one, fb3, fW3, kidsD_get t k _ hlt, fb17, fW19]
            (repeat (with_reducible refine And.intro ?_ ?_; (first | omega | (intro _; omega) | decide | (exact nfB) | (intro hg; refine ⟨hg, ?_⟩; omega) | (split <;> omega) | (simp; done) | (simp; omega))))
            refine DW.acp [b] [W19] rfl rfl rfl rfl (by (try simp only [go_sem, wob, tb.tests, tb.mats, tb.parts, List.length_map, tstWs_len, matWs_len, parWs_len, hw, Nat.mul_one, fb3, fW3, kidsD_get t k _ hlt, fb17, fW19]); rfl) rfl (ih _ (List.getElem_mem hlt) _ _ _ _ (by (try simp only [List.length_append, List.length_cons, List.length_nil]); omega)) ?_
            rintro _ _ ⟨W21, fW21, rfl, rfl⟩
            try simp only [freshT, freshL, wob] at fW21
            try simp only [go_sem, wob, tb.tests, tb.mats, tb.parts, List.length_map, tstWs_len, matWs_len, parWs_len, hw, Nat.mul_one, fb3, fW3, kidsD_get t k _ hlt, fb17, fW19, fW21]
            (repeat (with_reducible refine And.intro ?_ ?_; (first | omega | (intro _; omega) | decide | (exact nfB) | (intro hg; refine ⟨hg, ?_⟩; omega) | (split <;> omega) | (simp; done) | (simp; omega))))
            refine hK20 _ _ ?_
            try clear hK20 K20
            refine blkQ_n (thenQ_n ?_)
            refine hK15 _ _ ?_
            try clear hK15 K15
            refine AWp.mask [true, false, true, true, true] rfl ?_
            simp only [go_sem]
            refine AWp.rk fun K22 hK22 => ?_
            try simp only [go_sem, wob, tb.tests, tb.mats, tb.parts, List.length_map, tstWs_len, matWs_len, parWs_len, hw, Nat.mul_one, fb3, fW3, kidsD_get t k _ hlt, fb17, fW19, fW21]
            (repeat (with_reducible refine And.intro ?_ ?_; (first | omega | (intro _; omega) | decide | (exact nfB) | (intro hg; refine ⟨hg, ?_⟩; omega) | (split <;> omega) | (simp; done) | (simp; omega))))
            refine hK22 _ _ ?_
            try clear hK22 K22
            refine thenQ_n ?_
            refine EndS.mk [true, true, true] [false, false, false, true] [b17] [] [b, b3] [W21] rfl ?_ ?_
            · (try simp only [go_sem, wob, tb.tests, tb.mats, tb.parts, List.length_map, tstWs_len, matWs_len, parWs_len, hw, Nat.mul_one, fb3, fW3, kidsD_get t k _ hlt, fb17, fW19, fW21]) <;> try rfl
            refine .e ⟨_, ?_, k + 1, W21, Y ++ [⟨5, if decide ((k : Int) = 0) = true then [40] else [44], 0⟩] ++ tT (t.kids[k]'hlt), rfl, ?_, ?_, ?_, ?_⟩
            · first | omega | (simp; omega) | (grind)
            · (try simp only [go_sem, wob, tb.tests, tb.mats, tb.parts, List.length_map, tstWs_len, matWs_len, parWs_len, hw, Nat.mul_one, fb3, fW3, kidsD_get t k _ hlt, fb17, fW19, fW21]) <;> first | exact ⟨rfl⟩ | (constructor; simp; done)
            · (try simp only [go_sem, wob, tb.tests, tb.mats, tb.parts, List.length_map, tstWs_len, matWs_len, parWs_len, hw, Nat.mul_one, fb3, fW3, kidsD_get t k _ hlt, fb17, fW19, fW21]) <;> first | exact ⟨rfl⟩ | (constructor; simp; done)
            · omega
            · rw [tTL_drop _ _ _ hlt] at hY; rw [← hY]; by_cases hk0 : k = 0 <;> simp [hk0, tM]
          · skip
            try simp only [decide_eq_true_eq, decide_eq_false_iff_not, Bool.not_eq_true', Bool.not_eq_false', Bool.and_eq_true, Bool.or_eq_true, Bool.and_eq_false_iff, Bool.or_eq_false_iff, Int.not_lt, Int.not_le, beq_iff_eq, beq_eq_false_iff_ne, ne_eq, Bool.not_eq_true, Bool.not_eq_false] at hc3
            rw [tTL_end _ _ _ (by omega), List.append_nil] at hY
            rw [tTL_end _ _ _ (by omega), List.length_nil] at hYl
            refine AWp.exit ?_
            refine thenQ_e (thenQ_e (blkQ_e (thenQ_n ?_)))
            refine hK11 _ _ ?_
            try clear hK11 K11
            refine AWp.mask [true] rfl ?_
            simp only [go_sem]
            refine AWp.rk fun K23 hK23 => ?_
            try simp only [go_sem, wob, tb.tests, tb.mats, tb.parts, List.length_map, tstWs_len, matWs_len, parWs_len, hw, Nat.mul_one, fb3, fW3]
            (repeat (with_reducible refine And.intro ?_ ?_; (first | omega | (intro _; omega) | decide | (exact nfB) | (intro hg; refine ⟨hg, ?_⟩; omega) | (split <;> omega) | (simp; done) | (simp; omega))))
            refine DW.acp [b] [v] rfl rfl rfl rfl (by (try simp only [go_sem, wob, tb.tests, tb.mats, tb.parts, List.length_map, tstWs_len, matWs_len, parWs_len, hw, Nat.mul_one, fb3, fW3]); rfl) rfl (put_c T _ _ _ _ _ _ _ (by (try simp only [List.length_append, List.length_cons, List.length_nil]); omega)) ?_
            rintro _ _ ⟨W24, fW24, rfl, rfl⟩
            try simp only [freshT, freshL, wob] at fW24
            try simp only [go_sem, wob, tb.tests, tb.mats, tb.parts, List.length_map, tstWs_len, matWs_len, parWs_len, hw, Nat.mul_one, fb3, fW3, fW24]
            (repeat (with_reducible refine And.intro ?_ ?_; (first | omega | (intro _; omega) | decide | (exact nfB) | (intro hg; refine ⟨hg, ?_⟩; omega) | (split <;> omega) | (simp; done) | (simp; omega))))
            refine hK23 _ _ ?_
            try clear hK23 K23
            refine blkQ_n ?_
            apply endW_n [b3] [] [b] [W24] (by (try simp only [go_sem, wob, tb.tests, tb.mats, tb.parts, List.length_map, tstWs_len, matWs_len, parWs_len, hw, Nat.mul_one, fb3, fW3, fW24]); rfl)
            · refine ⟨W24, by simp only [go_sem, wob, tb.tests, tb.mats, tb.parts, List.length_map, tstWs_len, matWs_len, parWs_len, hw, Nat.mul_one, fb3, fW3, fW24], rfl, ?_⟩
              first | (simp only [go_sem, wob, tb.tests, tb.mats, tb.parts, List.length_map, tstWs_len, matWs_len, parWs_len, hw, Nat.mul_one, fb3, fW3, fW24, hT, tW, tG, tM, tN, tS, List.append_assoc, List.cons_append, List.nil_append, hY]; done) | (simp only [go_sem, wob, tb.tests, tb.mats, tb.parts, List.length_map, tstWs_len, matWs_len, parWs_len, hw, Nat.mul_one, fb3, fW3, fW24, hT, tW, tG, tM, tN, tS, List.append_assoc, List.cons_append, List.nil_append]; done) | (simp only [go_sem, wob, tb.tests, tb.mats, tb.parts, List.length_map, tstWs_len, matWs_len, parWs_len, hw, Nat.mul_one, fb3, fW3, fW24, hT, tW, tG, tM, tN, tS, List.append_assoc, List.cons_append, List.nil_append, toksD, List.map_append, List.map_cons, List.map_nil, tokD]; done)
            · simp only [LeA, LeL]
      · skip
        try simp only [decide_eq_true_eq, decide_eq_false_iff_not, Bool.not_eq_true', Bool.not_eq_false', Bool.and_eq_true, Bool.or_eq_true, Bool.and_eq_false_iff, Bool.or_eq_false_iff, Int.not_lt, Int.not_le, beq_iff_eq, beq_eq_false_iff_ne, ne_eq, Bool.not_eq_true, Bool.not_eq_false] at hc2
        have e45 : inB t.kind 4 5 = false := by simp [inB]; omega
        refine AWp.seq fun K25 hK25 => ?_
        refine AWp.rs fun K26 hK26 => ?_
        try simp only [go_sem, wob, tb.tests, tb.mats, tb.parts, List.length_map, tstWs_len, matWs_len, parWs_len, hw, Nat.mul_one, fb3, fW3]
        (repeat (with_reducible refine And.intro ?_ ?_; (first | omega | (intro _; omega) | decide | (exact nfB) | (intro hg; refine ⟨hg, ?_⟩; omega) | (split <;> omega) | (simp; done) | (simp; omega))))
        refine hK26 _ _ ?_
        try clear hK26 K26
        refine AWp.mask [true, true, true, false, true] rfl ?_
        simp only [go_sem]
        apply AWp.boK (z := (_ || (_ || _))) hK25 [true, true, true] 47
        · skip
          refine AWp.cond _ rfl (fun hc4 => ?_) (fun hc4 => ?_)
          rotate_left
          · skip
            refine AWp.rs fun K27 hK27 => ?_
            try simp only [go_sem, wob, tb.tests, tb.mats, tb.parts, List.length_map, tstWs_len, matWs_len, parWs_len, hw, Nat.mul_one, fb3, fW3]
            (repeat (with_reducible refine And.intro ?_ ?_; (first | omega | (intro _; omega) | decide | (exact nfB) | (intro hg; refine ⟨hg, ?_⟩; omega) | (split <;> omega) | (simp; done) | (simp; omega))))
            refine hK27 _ _ ?_
            try clear hK27 K27
            refine AWp.cond _ rfl (fun hc5 => ?_) (fun hc5 => ?_)
            rotate_left
            · skip
              refine AWp.rk fun K28 hK28 => ?_
              try simp only [go_sem, wob, tb.tests, tb.mats, tb.parts, List.length_map, tstWs_len, matWs_len, parWs_len, hw, Nat.mul_one, fb3, fW3]
              (repeat (with_reducible refine And.intro ?_ ?_; (first | omega | (intro _; omega) | decide | (exact nfB) | (intro hg; refine ⟨hg, ?_⟩; omega) | (split <;> omega) | (simp; done) | (simp; omega))))
              refine hK28 _ _ ?_
              try clear hK28 K28
              refine thenQ_n ?_
              refine EndS.mkr [true, true, true] [false, false, false, true] rfl ?_ ?_
              · (try simp only [go_sem, wob, tb.tests, tb.mats, tb.parts, List.length_map, tstWs_len, matWs_len, parWs_len, hw, Nat.mul_one, fb3, fW3]) <;> try rfl
              exact .e ⟨EqS.bo (or_f hc4 (or_f hc5 rfl)), ⟨rfl⟩⟩
            · skip
              refine AWp.skip ?_
              refine thenQ_n ?_
              refine EndS.mkr [true, true, true] [false, false, false, true] rfl ?_ ?_
              · (try simp only [go_sem, wob, tb.tests, tb.mats, tb.parts, List.length_map, tstWs_len, matWs_len, parWs_len, hw, Nat.mul_one, fb3, fW3]) <;> try rfl
              exact .e ⟨EqS.bo (or_f hc4 (or_t hc5)), ⟨rfl⟩⟩
          · skip
            refine AWp.skip ?_
            refine thenQ_n ?_
            refine EndS.mkr [true, true, true] [false, false, false, true] rfl ?_ ?_
            · (try simp only [go_sem, wob, tb.tests, tb.mats, tb.parts, List.length_map, tstWs_len, matWs_len, parWs_len, hw, Nat.mul_one, fb3, fW3]) <;> try rfl
            exact .e ⟨EqS.bo (or_t hc4), ⟨rfl⟩⟩
        · skip
          simp only [go_sem]
          refine AWp.cond _ rfl (fun hc6 => ?_) (fun hc6 => ?_)
          · skip
            try simp only [decide_eq_true_eq, decide_eq_false_iff_not, Bool.not_eq_true', Bool.not_eq_false', Bool.and_eq_true, Bool.or_eq_true, Bool.and_eq_false_iff, Bool.or_eq_false_iff, Int.not_lt, Int.not_le, beq_iff_eq, beq_eq_false_iff_ne, ne_eq, Bool.not_eq_true, Bool.not_eq_false] at hc6
            have e68 : inB t.kind 6 8 = true := by simp [inB]; omega
            obtain ⟨p1, p2, p3, p4⟩ := o3 e68
            have hwm := tab_at matWs t.mat (by omega) (by rw [matWs_len]; omega)
            have hT : tT t = tW (tabW tstWs t.kind) :: ((if t.kind = 6 then [] else [tG (tabW parWs t.part)]) ++ tG (tabW matWs t.mat) :: (strsT t.names ++ strsT t.keys)) := by rw [tT_eq, if_neg (by omega), if_neg (by rw [e45]; simp), if_pos e68]
            refine AWp.seq fun K29 hK29 => ?_
            refine AWp.rs fun K30 hK30 => ?_
            try simp only [go_sem, wob, tb.tests, tb.mats, tb.parts, List.length_map, tstWs_len, matWs_len, parWs_len, hw, Nat.mul_one, fb3, fW3, hwm]
            (repeat (with_reducible refine And.intro ?_ ?_; (first | omega | (intro _; omega) | decide | (exact nfB) | (intro hg; refine ⟨hg, ?_⟩; omega) | (split <;> omega) | (simp; done) | (simp; omega))))
            refine hK30 _ _ ?_
            try clear hK30 K30
            refine AWp.mask [true, true, false, false, false, false, true] rfl ?_
            simp only [go_sem]
            refine AWp.cond _ rfl (fun hc7 => ?_) (fun hc7 => ?_)
            · skip
              try simp only [decide_eq_true_eq, decide_eq_false_iff_not, Bool.not_eq_true', Bool.not_eq_false', Bool.and_eq_true, Bool.or_eq_true, Bool.and_eq_false_iff, Bool.or_eq_false_iff, Int.not_lt, Int.not_le, beq_iff_eq, beq_eq_false_iff_ne, ne_eq, Bool.not_eq_true, Bool.not_eq_false] at hc7
              obtain ⟨q1, q2⟩ := o4 (by simp [inB]; omega)
              have hwp := tab_at parWs t.part (by omega) (by rw [parWs_len]; omega)
              rw [if_neg hc7] at hT
              have hTl := congrArg List.length hT
              simp only [List.length_cons, List.length_append, List.length_nil] at hTl
              refine AWp.rk fun K31 hK31 => ?_
              try simp only [go_sem, wob, tb.tests, tb.mats, tb.parts, List.length_map, tstWs_len, matWs_len, parWs_len, hw, Nat.mul_one, fb3, fW3, hwm, hwp]
              (repeat (with_reducible refine And.intro ?_ ?_; (first | omega | (intro _; omega) | decide | (exact nfB) | (intro hg; refine ⟨hg, ?_⟩; omega) | (split <;> omega) | (simp; done) | (simp; omega))))
              refine DW.acp [b] [W3] rfl rfl rfl rfl (by (try simp only [go_sem, wob, tb.tests, tb.mats, tb.parts, List.length_map, tstWs_len, matWs_len, parWs_len, hw, Nat.mul_one, fb3, fW3, hwm, hwp]); rfl) rfl (put_c T _ _ _ _ _ _ _ (by (try simp only [List.length_append, List.length_cons, List.length_nil]); omega)) ?_
              rintro _ _ ⟨W32, fW32, rfl, rfl⟩
              try simp only [freshT, freshL, wob] at fW32
              try simp only [go_sem, wob, tb.tests, tb.mats, tb.parts, List.length_map, tstWs_len, matWs_len, parWs_len, hw, Nat.mul_one, fb3, fW3, hwm, hwp, fW32]
              (repeat (with_reducible refine And.intro ?_ ?_; (first | omega | (intro _; omega) | decide | (exact nfB) | (intro hg; refine ⟨hg, ?_⟩; omega) | (split <;> omega) | (simp; done) | (simp; omega))))
              refine hK31 _ _ ?_
              try clear hK31 K31
              refine thenQ_n ?_
              refine hK29 _ _ ?_
              try clear hK29 K29
              refine AWp.mask [true, true] rfl ?_
              simp only [go_sem]
              refine AWp.rs fun K33 hK33 => ?_
              try simp only [go_sem, wob, tb.tests, tb.mats, tb.parts, List.length_map, tstWs_len, matWs_len, parWs_len, hw, Nat.mul_one, fb3, fW3, hwm, hwp, fW32]
              (repeat (with_reducible refine And.intro ?_ ?_; (first | omega | (intro _; omega) | decide | (exact nfB) | (intro hg; refine ⟨hg, ?_⟩; omega) | (split <;> omega) | (simp; done) | (simp; omega))))
              refine DW.acp [b] [W32] rfl rfl rfl rfl (by (try simp only [go_sem, wob, tb.tests, tb.mats, tb.parts, List.length_map, tstWs_len, matWs_len, parWs_len, hw, Nat.mul_one, fb3, fW3, hwm, hwp, fW32]); rfl) rfl (put_c T _ _ _ _ _ _ _ (by (try simp only [List.length_append, List.length_cons, List.length_nil]); omega)) ?_
              rintro _ _ ⟨W34, fW34, rfl, rfl⟩
              try simp only [freshT, freshL, wob] at fW34
              try simp only [go_sem, wob, tb.tests, tb.mats, tb.parts, List.length_map, tstWs_len, matWs_len, parWs_len, hw, Nat.mul_one, fb3, fW3, hwm, hwp, fW32, fW34]
              (repeat (with_reducible refine And.intro ?_ ?_; (first | omega | (intro _; omega) | decide | (exact nfB) | (intro hg; refine ⟨hg, ?_⟩; omega) | (split <;> omega) | (simp; done) | (simp; omega))))
              refine hK33 _ _ ?_
              try clear hK33 K33
              refine AWp.mask [true, true] rfl ?_
              simp only [go_sem]
              refine AWp.rs fun K35 hK35 => ?_
              try simp only [go_sem, wob, tb.tests, tb.mats, tb.parts, List.length_map, tstWs_len, matWs_len, parWs_len, hw, Nat.mul_one, fb3, fW3, hwm, hwp, fW32, fW34]
              (repeat (with_reducible refine And.intro ?_ ?_; (first | omega | (intro _; omega) | decide | (exact nfB) | (intro hg; refine ⟨hg, ?_⟩; omega) | (split <;> omega) | (simp; done) | (simp; omega))))
              refine DW.acp [b] [W34] rfl rfl rfl rfl (by (try simp only [go_sem, wob, tb.tests, tb.mats, tb.parts, List.length_map, tstWs_len, matWs_len, parWs_len, hw, Nat.mul_one, fb3, fW3, hwm, hwp, fW32, fW34]); rfl) rfl (list_c T _ _ _ _ _ _ (by (try simp only [List.length_append, List.length_cons, List.length_nil]); omega)) ?_
              rintro _ _ ⟨W36, fW36, rfl, rfl⟩
              try simp only [freshT, freshL, wob] at fW36
              try simp only [go_sem, wob, tb.tests, tb.mats, tb.parts, List.length_map, tstWs_len, matWs_len, parWs_len, hw, Nat.mul_one, fb3, fW3, hwm, hwp, fW32, fW34, fW36]
              (repeat (with_reducible refine And.intro ?_ ?_; (first | omega | (intro _; omega) | decide | (exact nfB) | (intro hg; refine ⟨hg, ?_⟩; omega) | (split <;> omega) | (simp; done) | (simp; omega))))
              refine hK35 _ _ ?_
              try clear hK35 K35
              refine AWp.mask [true, true] rfl ?_
              simp only [go_sem]
              refine AWp.rk fun K37 hK37 => ?_
              try simp only [go_sem, wob, tb.tests, tb.mats, tb.parts, List.length_map, tstWs_len, matWs_len, parWs_len, hw, Nat.mul_one, fb3, fW3, hwm, hwp, fW32, fW34, fW36]
              (repeat (with_reducible refine And.intro ?_ ?_; (first | omega | (intro _; omega) | decide | (exact nfB) | (intro hg; refine ⟨hg, ?_⟩; omega) | (split <;> omega) | (simp; done) | (simp; omega))))
              refine DW.acp [b] [W36] rfl rfl rfl rfl (by (try simp only [go_sem, wob, tb.tests, tb.mats, tb.parts, List.length_map, tstWs_len, matWs_len, parWs_len, hw, Nat.mul_one, fb3, fW3, hwm, hwp, fW32, fW34, fW36]); rfl) rfl (list_c T _ _ _ _ _ _ (by (try simp only [List.length_append, List.length_cons, List.length_nil]); omega)) ?_
              rintro _ _ ⟨W38, fW38, rfl, rfl⟩
              try simp only [freshT, freshL, wob] at fW38
              try simp only [go_sem, wob, tb.tests, tb.mats, tb.parts, List.length_map, tstWs_len, matWs_len, parWs_len, hw, Nat.mul_one, fb3, fW3, hwm, hwp, fW32, fW34, fW36, fW38]
              (repeat (with_reducible refine And.intro ?_ ?_; (first | omega | (intro _; omega) | decide | (exact nfB) | (intro hg; refine ⟨hg, ?_⟩; omega) | (split <;> omega) | (simp; done) | (simp; omega))))
              refine hK37 _ _ ?_
              try clear hK37 K37
              refine blkQ_n ?_
              apply endW_n [b3] [] [b] [W38] (by (try simp only [go_sem, wob, tb.tests, tb.mats, tb.parts, List.length_map, tstWs_len, matWs_len, parWs_len, hw, Nat.mul_one, fb3, fW3, hwm, hwp, fW32, fW34, fW36, fW38]); rfl)
              · refine ⟨W38, by simp only [go_sem, wob, tb.tests, tb.mats, tb.parts, List.length_map, tstWs_len, matWs_len, parWs_len, hw, Nat.mul_one, fb3, fW3, hwm, hwp, fW32, fW34, fW36, fW38], rfl, ?_⟩
                first | (simp only [go_sem, wob, tb.tests, tb.mats, tb.parts, List.length_map, tstWs_len, matWs_len, parWs_len, hw, Nat.mul_one, fb3, fW3, hwm, hwp, fW32, fW34, fW36, fW38, hT, tW, tG, tM, tN, tS, List.append_assoc, List.cons_append, List.nil_append, hY]; done) | (simp only [go_sem, wob, tb.tests, tb.mats, tb.parts, List.length_map, tstWs_len, matWs_len, parWs_len, hw, Nat.mul_one, fb3, fW3, hwm, hwp, fW32, fW34, fW36, fW38, hT, tW, tG, tM, tN, tS, List.append_assoc, List.cons_append, List.nil_append]; done) | (simp only [go_sem, wob, tb.tests, tb.mats, tb.parts, List.length_map, tstWs_len, matWs_len, parWs_len, hw, Nat.mul_one, fb3, fW3, hwm, hwp, fW32, fW34, fW36, fW38, hT, tW, tG, tM, tN, tS, List.append_assoc, List.cons_append, List.nil_append, toksD, List.map_append, List.map_cons, List.map_nil, tokD]; done)
              · simp only [LeA, LeL]
            · skip
              try simp only [decide_eq_true_eq, decide_eq_false_iff_not, Bool.not_eq_true', Bool.not_eq_false', Bool.and_eq_true, Bool.or_eq_true, Bool.and_eq_false_iff, Bool.or_eq_false_iff, Int.not_lt, Int.not_le, beq_iff_eq, beq_eq_false_iff_ne, ne_eq, Bool.not_eq_true, Bool.not_eq_false] at hc7
              rw [if_pos hc7] at hT
              have hTl := congrArg List.length hT
              simp only [List.length_cons, List.length_append, List.length_nil] at hTl
              refine AWp.skip ?_
              refine thenQ_n ?_
              refine hK29 _ _ ?_
              try clear hK29 K29
              refine AWp.rs fun K39 hK39 => ?_
              try simp only [go_sem, wob, tb.tests, tb.mats, tb.parts, List.length_map, tstWs_len, matWs_len, parWs_len, hw, Nat.mul_one, fb3, fW3, hwm]
              (repeat (with_reducible refine And.intro ?_ ?_; (first | omega | (intro _; omega) | decide | (exact nfB) | (intro hg; refine ⟨hg, ?_⟩; omega) | (split <;> omega) | (simp; done) | (simp; omega))))
              refine DW.acp [b] [W3] rfl rfl rfl rfl (by (try simp only [go_sem, wob, tb.tests, tb.mats, tb.parts, List.length_map, tstWs_len, matWs_len, parWs_len, hw, Nat.mul_one, fb3, fW3, hwm]); rfl) rfl (put_c T _ _ _ _ _ _ _ (by (try simp only [List.length_append, List.length_cons, List.length_nil]); omega)) ?_
              rintro _ _ ⟨W40, fW40, rfl, rfl⟩
              try simp only [freshT, freshL, wob] at fW40
              try simp only [go_sem, wob, tb.tests, tb.mats, tb.parts, List.length_map, tstWs_len, matWs_len, parWs_len, hw, Nat.mul_one, fb3, fW3, hwm, fW40]
              (repeat (with_reducible refine And.intro ?_ ?_; (first | omega | (intro _; omega) | decide | (exact nfB) | (intro hg; refine ⟨hg, ?_⟩; omega) | (split <;> omega) | (simp; done) | (simp; omega))))
              refine hK39 _ _ ?_
              try clear hK39 K39
              refine AWp.mask [true, true] rfl ?_
              simp only [go_sem]
              refine AWp.rs fun K41 hK41 => ?_
              try simp only [go_sem, wob, tb.tests, tb.mats, tb.parts, List.length_map, tstWs_len, matWs_len, parWs_len, hw, Nat.mul_one, fb3, fW3, hwm, fW40]
              (repeat (with_reducible refine And.intro ?_ ?_; (first | omega | (intro _; omega) | decide | (exact nfB) | (intro hg; refine ⟨hg, ?_⟩; omega) | (split <;> omega) | (simp; done) | (simp; omega))))
              refine DW.acp [b] [W40] rfl rfl rfl rfl (by (try simp only [go_sem, wob, tb.tests, tb.mats, tb.parts, List.length_map, tstWs_len, matWs_len, parWs_len, hw, Nat.mul_one, fb3, fW3, hwm, fW40]); rfl) rfl (list_c T _ _ _ _ _ _ (by (try simp only [List.length_append, List.length_cons, List.length_nil]); omega)) ?_
              rintro _ _ ⟨W42, fW42, rfl, rfl⟩
              try simp only [freshT, freshL, wob] at fW42
              try simp only [go_sem, wob, tb.tests, tb.mats, tb.parts, List.length_map, tstWs_len, matWs_len, parWs_len, hw, Nat.mul_one, fb3, fW3, hwm, fW40, fW42]
              (repeat (with_reducible refine And.intro ?_ ?_; (first | omega | (intro _; omega) | decide | (exact nfB) | (intro hg; refine ⟨hg, ?_⟩; omega) | (split <;> omega) | (simp; done) | (simp; omega))))
              refine hK41 _ _ ?_
              try clear hK41 K41
              refine AWp.mask [true, true] rfl ?_
              simp only [go_sem]
              refine AWp.rk fun K43 hK43 => ?_
              try simp only [go_sem, wob, tb.tests, tb.mats, tb.parts, List.length_map, tstWs_len, matWs_len, parWs_len, hw, Nat.mul_one, fb3, fW3, hwm, fW40, fW42]
              (repeat (with_reducible refine And.intro ?_ ?_; (first | omega | (intro _; omega) | decide | (exact nfB) | (intro hg; refine ⟨hg, ?_⟩; omega) | (split <;> omega) | (simp; done) | (simp; omega))))
              refine DW.acp [b] [W42] rfl rfl rfl rfl (by (try simp only [go_sem, wob, tb.tests, tb.mats, tb.parts, List.length_map, tstWs_len, matWs_len, parWs_len, hw, Nat.mul_one, fb3, fW3, hwm, fW40, fW42]); rfl) rfl (list_c T _ _ _ _ _ _ (by (try simp only [List.length_append, List.length_cons, List.length_nil]); omega)) ?_
              rintro _ _ ⟨W44, fW44, rfl, rfl⟩
              try simp only [freshT, freshL, wob] at fW44
              try simp only [go_sem, wob, tb.tests, tb.mats, tb.parts, List.length_map, tstWs_len, matWs_len, parWs_len, hw, Nat.mul_one, fb3, fW3, hwm, fW40, fW42, fW44]
              (repeat (with_reducible refine And.intro ?_ ?_; (first | omega | (intro _; omega) | decide | (exact nfB) | (intro hg; refine ⟨hg, ?_⟩; omega) | (split <;> omega) | (simp; done) | (simp; omega))))
              refine hK43 _ _ ?_
              try clear hK43 K43
              refine blkQ_n ?_
              apply endW_n [b3] [] [b] [W44] (by (try simp only [go_sem, wob, tb.tests, tb.mats, tb.parts, List.length_map, tstWs_len, matWs_len, parWs_len, hw, Nat.mul_one, fb3, fW3, hwm, fW40, fW42, fW44]); rfl)
              · refine ⟨W44, by simp only [go_sem, wob, tb.tests, tb.mats, tb.parts, List.length_map, tstWs_len, matWs_len, parWs_len, hw, Nat.mul_one, fb3, fW3, hwm, fW40, fW42, fW44], rfl, ?_⟩
                first | (simp only [go_sem, wob, tb.tests, tb.mats, tb.parts, List.length_map, tstWs_len, matWs_len, parWs_len, hw, Nat.mul_one, fb3, fW3, hwm, fW40, fW42, fW44, hT, tW, tG, tM, tN, tS, List.append_assoc, List.cons_append, List.nil_append, hY]; done) | (simp only [go_sem, wob, tb.tests, tb.mats, tb.parts, List.length_map, tstWs_len, matWs_len, parWs_len, hw, Nat.mul_one, fb3, fW3, hwm, fW40, fW42, fW44, hT, tW, tG, tM, tN, tS, List.append_assoc, List.cons_append, List.nil_append]; done) | (simp only [go_sem, wob, tb.tests, tb.mats, tb.parts, List.length_map, tstWs_len, matWs_len, parWs_len, hw, Nat.mul_one, fb3, fW3, hwm, fW40, fW42, fW44, hT, tW, tG, tM, tN, tS, List.append_assoc, List.cons_append, List.nil_append, toksD, List.map_append, List.map_cons, List.map_nil, tokD]; done)
              · simp only [LeA, LeL]
          · skip
            try simp only [decide_eq_true_eq, decide_eq_false_iff_not, Bool.not_eq_true', Bool.not_eq_false', Bool.and_eq_true, Bool.or_eq_true, Bool.and_eq_false_iff, Bool.or_eq_false_iff, Int.not_lt, Int.not_le, beq_iff_eq, beq_eq_false_iff_ne, ne_eq, Bool.not_eq_true, Bool.not_eq_false] at hc6
            have e68 : inB t.kind 6 8 = false := by simp [inB]; omega
            refine AWp.rs fun K45 hK45 => ?_
            try simp only [go_sem, wob, tb.tests, tb.mats, tb.parts, List.length_map, tstWs_len, matWs_len, parWs_len, hw, Nat.mul_one, fb3, fW3]
            (repeat (with_reducible refine And.intro ?_ ?_; (first | omega | (intro _; omega) | decide | (exact nfB) | (intro hg; refine ⟨hg, ?_⟩; omega) | (split <;> omega) | (simp; done) | (simp; omega))))
            refine hK45 _ _ ?_
            try clear hK45 K45
            refine AWp.cond _ rfl (fun hc8 => ?_) (fun hc8 => ?_)
            · skip
              try simp only [decide_eq_true_eq, decide_eq_false_iff_not, Bool.not_eq_true', Bool.not_eq_false', Bool.and_eq_true, Bool.or_eq_true, Bool.and_eq_false_iff, Bool.or_eq_false_iff, Int.not_lt, Int.not_le, beq_iff_eq, beq_eq_false_iff_ne, ne_eq, Bool.not_eq_true, Bool.not_eq_false] at hc8
              have hT : tT t = tW (tabW tstWs t.kind) :: strsT t.names := by rw [tT_eq, if_neg (by omega), if_neg (by rw [e45]; simp), if_neg (by rw [e68]; simp), if_pos hc8]
              have hTl := congrArg List.length hT
              simp only [List.length_cons, List.length_append, List.length_nil] at hTl
              refine AWp.rk fun K46 hK46 => ?_
              try simp only [go_sem, wob, tb.tests, tb.mats, tb.parts, List.length_map, tstWs_len, matWs_len, parWs_len, hw, Nat.mul_one, fb3, fW3]
              (repeat (with_reducible refine And.intro ?_ ?_; (first | omega | (intro _; omega) | decide | (exact nfB) | (intro hg; refine ⟨hg, ?_⟩; omega) | (split <;> omega) | (simp; done) | (simp; omega))))
              refine DW.acp [b] [W3] rfl rfl rfl rfl (by (try simp only [go_sem, wob, tb.tests, tb.mats, tb.parts, List.length_map, tstWs_len, matWs_len, parWs_len, hw, Nat.mul_one, fb3, fW3]); rfl) rfl (list_c T _ _ _ _ _ _ (by (try simp only [List.length_append, List.length_cons, List.length_nil]); omega)) ?_
              rintro _ _ ⟨W47, fW47, rfl, rfl⟩
              try simp only [freshT, freshL, wob] at fW47
              try simp only [go_sem, wob, tb.tests, tb.mats, tb.parts, List.length_map, tstWs_len, matWs_len, parWs_len, hw, Nat.mul_one, fb3, fW3, fW47]
              (repeat (with_reducible refine And.intro ?_ ?_; (first | omega | (intro _; omega) | decide | (exact nfB) | (intro hg; refine ⟨hg, ?_⟩; omega) | (split <;> omega) | (simp; done) | (simp; omega))))
              refine hK46 _ _ ?_
              try clear hK46 K46
              refine blkQ_n ?_
              apply endW_n [b3] [] [b] [W47] (by (try simp only [go_sem, wob, tb.tests, tb.mats, tb.parts, List.length_map, tstWs_len, matWs_len, parWs_len, hw, Nat.mul_one, fb3, fW3, fW47]); rfl)
              · refine ⟨W47, by simp only [go_sem, wob, tb.tests, tb.mats, tb.parts, List.length_map, tstWs_len, matWs_len, parWs_len, hw, Nat.mul_one, fb3, fW3, fW47], rfl, ?_⟩
                first | (simp only [go_sem, wob, tb.tests, tb.mats, tb.parts, List.length_map, tstWs_len, matWs_len, parWs_len, hw, Nat.mul_one, fb3, fW3, fW47, hT, tW, tG, tM, tN, tS, List.append_assoc, List.cons_append, List.nil_append, hY]; done) | (simp only [go_sem, wob, tb.tests, tb.mats, tb.parts, List.length_map, tstWs_len, matWs_len, parWs_len, hw, Nat.mul_one, fb3, fW3, fW47, hT, tW, tG, tM, tN, tS, List.append_assoc, List.cons_append, List.nil_append]; done) | (simp only [go_sem, wob, tb.tests, tb.mats, tb.parts, List.length_map, tstWs_len, matWs_len, parWs_len, hw, Nat.mul_one, fb3, fW3, fW47, hT, tW, tG, tM, tN, tS, List.append_assoc, List.cons_append, List.nil_append, toksD, List.map_append, List.map_cons, List.map_nil, tokD]; done)
              · simp only [LeA, LeL]
            · skip
              try simp only [decide_eq_true_eq, decide_eq_false_iff_not, Bool.not_eq_true', Bool.not_eq_false', Bool.and_eq_true, Bool.or_eq_true, Bool.and_eq_false_iff, Bool.or_eq_false_iff, Int.not_lt, Int.not_le, beq_iff_eq, beq_eq_false_iff_ne, ne_eq, Bool.not_eq_true, Bool.not_eq_false] at hc8
              refine AWp.rs fun K48 hK48 => ?_
              try simp only [go_sem, wob, tb.tests, tb.mats, tb.parts, List.length_map, tstWs_len, matWs_len, parWs_len, hw, Nat.mul_one, fb3, fW3]
              (repeat (with_reducible refine And.intro ?_ ?_; (first | omega | (intro _; omega) | decide | (exact nfB) | (intro hg; refine ⟨hg, ?_⟩; omega) | (split <;> omega) | (simp; done) | (simp; omega))))
              refine hK48 _ _ ?_
              try clear hK48 K48
              refine AWp.mask [true, true, false, false, false, false, true] rfl ?_
              simp only [go_sem]
              refine AWp.cond _ rfl (fun hc9 => ?_) (fun hc9 => ?_)
              · skip
                try simp only [decide_eq_true_eq, decide_eq_false_iff_not, Bool.not_eq_true', Bool.not_eq_false', Bool.and_eq_true, Bool.or_eq_true, Bool.and_eq_false_iff, Bool.or_eq_false_iff, Int.not_lt, Int.not_le, beq_iff_eq, beq_eq_false_iff_ne, ne_eq, Bool.not_eq_true, Bool.not_eq_false] at hc9
                have hT : tT t = tW (tabW tstWs t.kind) :: [tG (if t.over = true then [111, 118, 101, 114] else [117, 110, 100, 101, 114]), tN t.limit] := by rw [tT_eq, if_neg (by omega), if_neg (by rw [e45]; simp), if_neg (by rw [e68]; simp), if_neg hc8, if_pos hc9]
                have hTl := congrArg List.length hT
                simp only [List.length_cons, List.length_append, List.length_nil] at hTl
                refine AWp.rs fun K49 hK49 => ?_
                try simp only [go_sem, wob, tb.tests, tb.mats, tb.parts, List.length_map, tstWs_len, matWs_len, parWs_len, hw, Nat.mul_one, fb3, fW3]
                (repeat (with_reducible refine And.intro ?_ ?_; (first | omega | (intro _; omega) | decide | (exact nfB) | (intro hg; refine ⟨hg, ?_⟩; omega) | (split <;> omega) | (simp; done) | (simp; omega))))
                refine DW.pcr rfl rfl rfl rfl (flag_c T _) rfl rfl ?_
                try simp only [go_sem, wob, tb.tests, tb.mats, tb.parts, List.length_map, tstWs_len, matWs_len, parWs_len, hw, Nat.mul_one, fb3, fW3]
                (repeat (with_reducible refine And.intro ?_ ?_; (first | omega | (intro _; omega) | decide | (exact nfB) | (intro hg; refine ⟨hg, ?_⟩; omega) | (split <;> omega) | (simp; done) | (simp; omega))))
                refine DW.acp [b] [W3] rfl rfl rfl rfl (by (try simp only [go_sem, wob, tb.tests, tb.mats, tb.parts, List.length_map, tstWs_len, matWs_len, parWs_len, hw, Nat.mul_one, fb3, fW3]); rfl) rfl (put_c T _ _ _ _ _ _ _ (by (try simp only [List.length_append, List.length_cons, List.length_nil]); omega)) ?_
                rintro _ _ ⟨W50, fW50, rfl, rfl⟩
                try simp only [freshT, freshL, wob] at fW50
                try simp only [go_sem, wob, tb.tests, tb.mats, tb.parts, List.length_map, tstWs_len, matWs_len, parWs_len, hw, Nat.mul_one, fb3, fW3, fW50]
                (repeat (with_reducible refine And.intro ?_ ?_; (first | omega | (intro _; omega) | decide | (exact nfB) | (intro hg; refine ⟨hg, ?_⟩; omega) | (split <;> omega) | (simp; done) | (simp; omega))))
                refine hK49 _ _ ?_
                try clear hK49 K49
                refine AWp.mask [true, true] rfl ?_
                simp only [go_sem]
                refine AWp.dk true [0, 1, 2, 3, 4, 5, 6, 7, 8, 9, 10, 11, 12] rfl (by kernel_rfl) fun K51 hK51 => ?_
                try simp only [go_sem, wob, tb.tests, tb.mats, tb.parts, List.length_map, tstWs_len, matWs_len, parWs_len, hw, Nat.mul_one, fb3, fW3, fW50]
                (repeat (with_reducible refine And.intro ?_ ?_; (first | omega | (intro _; omega) | decide | (exact nfB) | (intro hg; refine ⟨hg, ?_⟩; omega) | (split <;> omega) | (simp; done) | (simp; omega))))
                refine DW.app rfl rfl rfl rfl (show slI Tryd.prog 28 = some (108, 3, 32) by simp only [go_sem]) rfl rfl (by simp only [go_sem, wob, tb.tests, tb.mats, tb.parts, List.length_map, tstWs_len, matWs_len, parWs_len, hw, Nat.mul_one, fb3, fW3, fW50]) (by first | exact .inl rfl | exact .inr rfl) (by first | omega | (simp only [go_sem] <;> omega) | (simp only [go_sem, List.length_take, List.length_map, List.length_append, List.length_cons, List.length_nil] <;> omega) | (simp <;> omega)) (by first | omega | (simp only [go_sem] <;> omega) | (simp only [go_sem, List.length_take, List.length_map, List.length_append, List.length_cons, List.length_nil] <;> omega) | (simp <;> omega)) fun t1 ft1 => ?_
                try simp only [freshT] at ft1
                try simp only [go_sem, wob, tb.tests, tb.mats, tb.parts, List.length_map, tstWs_len, matWs_len, parWs_len, hw, Nat.mul_one, fb3, fW3, fW50, ft1]
                (repeat (with_reducible refine And.intro ?_ ?_; (first | omega | (intro _; omega) | decide | (exact nfB) | (intro hg; refine ⟨hg, ?_⟩; omega) | (split <;> omega) | (simp; done) | (simp; omega))))
                refine hK51 _ _ ?_
                try clear hK51 K51
                refine blkQ_n ?_
                apply endW_n [b3] [] [b] [t1] (by (try simp only [go_sem, wob, tb.tests, tb.mats, tb.parts, List.length_map, tstWs_len, matWs_len, parWs_len, hw, Nat.mul_one, fb3, fW3, fW50, ft1]); rfl)
                · refine ⟨t1, by simp only [go_sem, wob, tb.tests, tb.mats, tb.parts, List.length_map, tstWs_len, matWs_len, parWs_len, hw, Nat.mul_one, fb3, fW3, fW50, ft1], rfl, ?_⟩
                  first | (simp only [go_sem, wob, tb.tests, tb.mats, tb.parts, List.length_map, tstWs_len, matWs_len, parWs_len, hw, Nat.mul_one, fb3, fW3, fW50, ft1, hT, tW, tG, tM, tN, tS, List.append_assoc, List.cons_append, List.nil_append, hY]; done) | (simp only [go_sem, wob, tb.tests, tb.mats, tb.parts, List.length_map, tstWs_len, matWs_len, parWs_len, hw, Nat.mul_one, fb3, fW3, fW50, ft1, hT, tW, tG, tM, tN, tS, List.append_assoc, List.cons_append, List.nil_append]; done) | (simp only [go_sem, wob, tb.tests, tb.mats, tb.parts, List.length_map, tstWs_len, matWs_len, parWs_len, hw, Nat.mul_one, fb3, fW3, fW50, ft1, hT, tW, tG, tM, tN, tS, List.append_assoc, List.cons_append, List.nil_append, toksD, List.map_append, List.map_cons, List.map_nil, tokD]; done)
                · simp only [LeA, LeL]
              · skip
                try simp only [decide_eq_true_eq, decide_eq_false_iff_not, Bool.not_eq_true', Bool.not_eq_false', Bool.and_eq_true, Bool.or_eq_true, Bool.and_eq_false_iff, Bool.or_eq_false_iff, Int.not_lt, Int.not_le, beq_iff_eq, beq_eq_false_iff_ne, ne_eq, Bool.not_eq_true, Bool.not_eq_false] at hc9
                have hT : tT t = tW (tabW tstWs t.kind) :: [] := by rw [tT_eq, if_neg (by omega), if_neg (by rw [e45]; simp), if_neg (by rw [e68]; simp), if_neg hc8, if_neg hc9]
                refine AWp.skip ?_
                refine blkQ_n ?_
                apply endW_n [b3] [] [b] [W3] (by (try simp only [go_sem, wob, tb.tests, tb.mats, tb.parts, List.length_map, tstWs_len, matWs_len, parWs_len, hw, Nat.mul_one, fb3, fW3]); rfl)
                · refine ⟨W3, by simp only [go_sem, wob, tb.tests, tb.mats, tb.parts, List.length_map, tstWs_len, matWs_len, parWs_len, hw, Nat.mul_one, fb3, fW3], rfl, ?_⟩
                  first | (simp only [go_sem, wob, tb.tests, tb.mats, tb.parts, List.length_map, tstWs_len, matWs_len, parWs_len, hw, Nat.mul_one, fb3, fW3, hT, tW, tG, tM, tN, tS, List.append_assoc, List.cons_append, List.nil_append, hY]; done) | (simp only [go_sem, wob, tb.tests, tb.mats, tb.parts, List.length_map, tstWs_len, matWs_len, parWs_len, hw, Nat.mul_one, fb3, fW3, hT, tW, tG, tM, tN, tS, List.append_assoc, List.cons_append, List.nil_append]; done) | (simp only [go_sem, wob, tb.tests, tb.mats, tb.parts, List.length_map, tstWs_len, matWs_len, parWs_len, hw, Nat.mul_one, fb3, fW3, hT, tW, tG, tM, tN, tS, List.append_assoc, List.cons_append, List.nil_append, toksD, List.map_append, List.map_cons, List.map_nil, tokD]; done)
                · simp only [LeA, LeL]
theorem wtest_c (T : Tbl) (b : Nat) (tb : Tabs T) (t : Tst) (ok : t.Ok) (d : Int) (hF : tF t d = 0) (u : Nat) (X : List Tok) (F : List (Nat × Ob)) (L : List Nat) (hl : X.length + (tT t).length ≤ 4398046511104) : AC Tryd.prog T 174 [.ptr b 1 0 0, .agg (tstA t)] ⟨wob b u X :: F, u :: L⟩ (WR b F L (X ++ tT t)) := by
  induction t using Tst.ind generalizing d u X F L with
  | h t ih => exact wtest_step T b u X F L t ok tb d hF hl fun x hx u X F L h => ih x hx (ok.inv.2.2.2 x hx) (d + 1) ((tF_ok hF).2.2 x hx) u X F L h
mutual
def cmT : Cmd → List Tok
  | .mk k tx t a e => if k = 2 then tT t ++ tM [123] :: (lsT a ++ tM [125] :: elT e) else (if 0 < tx.length then strsT tx else []) ++ [tM [59]]
/-- commands, one behind the other -/
def lsT : List Cmd → List Tok
  | [] => []
  | x :: l => tW (tabW cmdWs x.kind) :: (cmT x ++ lsT l)
def elT : List Cmd → List Tok
  | [] => []
  | [x] => if x.kind = 2 then tW [101, 108, 115, 105, 102] :: cmT x else tW [101, 108, 115, 101] :: tM [123] :: (tW (tabW cmdWs x.kind) :: cmT x ++ [tM [125]])
  | x :: y :: l => tW [101, 108, 115, 101] :: tM [123] :: (tW (tabW cmdWs x.kind) :: (cmT x ++ lsT (y :: l)) ++ [tM [125]])
end
theorem cmT_eq (c : Cmd) : cmT c = if c.kind = 2 then tT c.test ++ tM [123] :: (lsT c.thn ++ tM [125] :: elT c.els) else (if 0 < c.texts.length then strsT c.texts else []) ++ [tM [59]] := by
  cases c; rw [cmT]; rfl
theorem lsT_drop (l : List Cmd) (k : Nat) (h : k < l.length) : lsT (l.drop k) = tW (tabW cmdWs (l[k]'h).kind) :: (cmT (l[k]'h) ++ lsT (l.drop (k + 1))) := by
  rw [List.drop_eq_getElem_cons h, lsT]
theorem lsT_end (l : List Cmd) (k : Nat) (h : l.length ≤ k) : lsT (l.drop k) = [] := by rw [List.drop_eq_nil_of_le h, lsT]
theorem elT_t (c : Cmd) (h : elsifC c = true) (h1 : 0 < c.els.length) : elT c.els = tW [101, 108, 115, 105, 102] :: cmT (c.els[0]'h1) := by
  obtain ⟨k, tx, t, a, e⟩ := c
  simp only [elsifC, Cmd.els] at *
  match e, h, h1 with
  | [x], h, h1 => simp at h; simp [elT, h]
theorem elT_f (c : Cmd) (h : elsifC c = false) (h1 : 0 < c.els.length) : elT c.els = tW [101, 108, 115, 101] :: tM [123] :: (lsT c.els ++ [tM [125]]) := by
  obtain ⟨k, tx, t, a, e⟩ := c
  simp only [elsifC, Cmd.els] at *
  match e, h, h1 with
  | [x], h, h1 => simp at h; simp [elT, lsT, h]
  | x :: y :: l, h, h1 => simp [elT, lsT]
theorem elT_0 (c : Cmd) (h : c.els.length = 0) : elT c.els = [] := by
  rw [List.eq_nil_of_length_eq_zero h, elT]
theorem cFL_mem (l : List Cmd) (d : Int) (h : cFL l d = 0) : ∀ x ∈ l, cF x d = 0 := by
  induction l with
  | nil => simp
  | cons y l ih =>
    rw [cFL] at h
    intro x hx
    by_cases h1 : cF y d = 0
    · rw [if_pos h1] at h
      rcases List.mem_cons.1 hx with rfl | hx
      · exact h1
      · exact ih h x hx
    · rw [if_neg h1] at h; exact absurd h h1
theorem cF_ok {c : Cmd} {d : Int} (h : cF c d = 0) : inB c.kind 1 10 = true ∧ (c.kind = 2 → tF c.test 1 = 0 ∧ (∀ x ∈ c.thn, cF x (d + 1) = 0) ∧ (elsifC c = true → ∀ x ∈ c.els, cF x d = 0) ∧ (elsifC c = false → ∀ x ∈ c.els, cF x (d + 1) = 0)) ∧ (c.kind ≠ 2 → okC c = true) := by
  rw [cF_eq] at h
  by_cases h1 : inB c.kind 1 10 = false
  · rw [if_pos h1] at h; omega
  · rw [if_neg h1] at h
    by_cases h2 : 6 < d
    · rw [if_pos h2] at h; omega
    · rw [if_neg h2] at h
      refine ⟨by simpa using h1, fun h3 => ?_, fun h3 => ?_⟩
      · rw [if_pos h3] at h
        by_cases h4 : 0 < c.texts.length
        · rw [if_pos h4] at h; omega
        · rw [if_neg h4] at h
          by_cases h5 : tF c.test 1 = 0
          · rw [if_pos h5] at h
            by_cases h6 : cFL c.thn (d + 1) = 0
            · rw [if_pos h6] at h
              refine ⟨h5, cFL_mem _ _ h6, fun h7 x hx => ?_, fun h7 => ?_⟩
              · have h8 : c.els.length = 1 := by simp [elsifC] at h7; exact h7.1
                rw [cFE_t c d h7 (by omega)] at h
                obtain ⟨i, hi, rfl⟩ := List.getElem_of_mem hx
                have : i = 0 := by omega
                subst this; exact h
              · rw [cFE_f c d h7] at h
                exact cFL_mem _ _ h
            · rw [if_neg h6] at h; exact absurd h h6
          · rw [if_neg h5] at h; exact absurd h h5
      · rw [if_neg h3] at h
        by_cases h4 : okC c = true
        · exact h4
        · rw [if_neg h4] at h; omega
end Go.Proofs.YtnoboapafndnlaaDoor

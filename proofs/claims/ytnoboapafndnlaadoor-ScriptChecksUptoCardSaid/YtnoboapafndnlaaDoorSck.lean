/- Scripts: Check, Show. -/
import Derived.Test.YtnoboapafndnlaaDoorShc
import Derived.Test.YtnoboapafndnlaaDoorCp
namespace Go.Proofs.YtnoboapafndnlaaDoor
set_option linter.unusedSimpArgs false
set_option linter.unusedVariables false
set_option maxRecDepth 4000 in
set_option maxHeartbeats 1000000 in
theorem Check_c (T : Tbl) (l : List Cmd) (hll : l.length * 208 ≤ 140737488355328) (ok : ∀ x ∈ l, x.Ok) (hl : (lsT l).length ≤ 4398046511104) (tb : Tabs T) : PC Tryd.prog T 16 [.d (.slc 12 (l.map cmdD))] (.d (.int .i64 (chkE l))) := by
  refine ⟨Tryd.call16, PCall.enterS Tryd.func16 rfl Tryd.ntmps16 rfl fun hb => ?_⟩
  simp only [go_sem, Tryd.results16]
  refine AWp.rs fun K1 hK1 => ?_
  try simp only [go_sem, wob]
  (repeat (with_reducible refine And.intro ?_ ?_; (first | omega | (intro _; omega) | decide | (exact nfB) | (intro hg; refine ⟨hg, ?_⟩; omega) | (simp; done) | (simp; omega))))
  refine hK1 _ _ ?_
  try clear hK1 K1
  refine AWp.seq fun K2 hK2 => ?_
  refine AWp.rs fun K3 hK3 => ?_
  try simp only [go_sem, wob]
  (repeat (with_reducible refine And.intro ?_ ?_; (first | omega | (intro _; omega) | decide | (exact nfB) | (intro hg; refine ⟨hg, ?_⟩; omega) | (simp; done) | (simp; omega))))
  refine DW.pcr rfl rfl rfl rfl (checkAll_c T _ hll ok _ (by omega) (by omega)) rfl rfl ?_
  try simp only [go_sem, wob]
  (repeat (with_reducible refine And.intro ?_ ?_; (first | omega | (intro _; omega) | decide | (exact nfB) | (intro hg; refine ⟨hg, ?_⟩; omega) | (simp; done) | (simp; omega))))
  refine hK3 _ _ ?_
  try clear hK3 K3
  refine AWp.rs fun K4 hK4 => ?_
  try simp only [go_sem, wob]
  (repeat (with_reducible refine And.intro ?_ ?_; (first | omega | (intro _; omega) | decide | (exact nfB) | (intro hg; refine ⟨hg, ?_⟩; omega) | (simp; done) | (simp; omega))))
  refine hK4 _ _ ?_
  try clear hK4 K4
  refine AWp.mask [true, false, true, false, false, false, true] rfl ?_
  simp only [go_sem]
  refine AWp.cond _ rfl (fun hc0 => ?_) (fun hc0 => ?_)
  · skip
    try simp only [decide_eq_true_eq, decide_eq_false_iff_not, Bool.not_eq_true', Bool.not_eq_false', Bool.and_eq_true, Bool.or_eq_true, Bool.and_eq_false_iff, Bool.or_eq_false_iff, Int.not_lt, Int.not_le, beq_iff_eq, beq_eq_false_iff_ne, ne_eq, Bool.not_eq_true, Bool.not_eq_false] at hc0
    refine AWp.rs fun K5 hK5 => ?_
    try simp only [go_sem, wob]
    (repeat (with_reducible refine And.intro ?_ ?_; (first | omega | (intro _; omega) | decide | (exact nfB) | (intro hg; refine ⟨hg, ?_⟩; omega) | (simp; done) | (simp; omega))))
    refine hK5 _ _ ?_
    try clear hK5 K5
    refine AWp.mask [false, true] rfl ?_
    simp only [go_sem]
    refine AWp.ret ?_
    try simp only [go_sem, wob]
    rw [chkE, if_neg hc0]
  · skip
    try simp only [decide_eq_true_eq, decide_eq_false_iff_not, Bool.not_eq_true', Bool.not_eq_false', Bool.and_eq_true, Bool.or_eq_true, Bool.and_eq_false_iff, Bool.or_eq_false_iff, Int.not_lt, Int.not_le, beq_iff_eq, beq_eq_false_iff_ne, ne_eq, Bool.not_eq_true, Bool.not_eq_false] at hc0
    have h0 := cFL_mem _ _ hc0
    refine AWp.skip ?_
    refine thenQ_n ?_
    refine hK2 _ _ ?_
    try clear hK2 K2
    refine AWp.rs fun K6 hK6 => ?_
    try simp only [go_sem, wob]
    (repeat (with_reducible refine And.intro ?_ ?_; (first | omega | (intro _; omega) | decide | (exact nfB) | (intro hg; refine ⟨hg, ?_⟩; omega) | (simp; done) | (simp; omega))))
    intro b fb
    try simp only [freshL, wob] at fb
    try simp only [go_sem, wob, fb]
    (repeat (with_reducible refine And.intro ?_ ?_; (first | omega | (intro _; omega) | decide | (exact nfB) | (intro hg; refine ⟨hg, ?_⟩; omega) | (simp; done) | (simp; omega))))
    refine hK6 _ _ ?_
    try clear hK6 K6
    refine AWp.mask [true, false, true] rfl ?_
    simp only [go_sem]
    refine AWp.ownNilH b 0 0 3 (by (try simp only [go_sem, wob, fb]); rfl) rfl rfl (by decide) fun u fu => ?_
    try simp only [freshT] at fu
    simp only [go_sem, wob, fb, fu]
    refine AWp.seq fun K7 hK7 => ?_
    refine AWp.rs fun K8 hK8 => ?_
    try simp only [go_sem, wob, fb, fu]
    (repeat (with_reducible refine And.intro ?_ ?_; (first | omega | (intro _; omega) | decide | (exact nfB) | (intro hg; refine ⟨hg, ?_⟩; omega) | (simp; done) | (simp; omega))))
    refine hK8 _ _ ?_
    try clear hK8 K8
    refine AWp.block ?_
    refine AWp.mask [false, true, true, true, true] rfl ?_
    simp only [go_sem]
    refine AWp.loopS [true, true, true] [false, false, false, true] (fun n lc hc => ∃ (k v : Nat) (Y : List Tok), n = l.length - k ∧ EqS lc [(16, .d (.int .i64 k))] ∧ EqS hc (⟨[wob b v Y], [v]⟩) ∧ (k ≤ l.length) ∧ (Y ++ lsT (l.drop k) = lsT l)) rfl ?_ ?_
    · refine ⟨_, 0, u, [], rfl, ?_, ?_, ?_, ?_⟩
      · (try simp only [go_sem, wob, fb, fu]) <;> first | exact ⟨rfl⟩ | (constructor; simp; done)
      · (try simp only [go_sem, wob, fb, fu]) <;> first | exact ⟨rfl⟩ | (constructor; simp; done)
      all_goals (first | omega | rfl | (simp; done) | (simp; omega) | assumption)
    · rintro _ _ _ ⟨k, v, Y, rfl, ⟨rfl⟩, ⟨rfl⟩, hk2, hY⟩
      have hYl := congrArg List.length hY
      simp only [List.length_append] at hYl
      simp only [go_sem]
      refine AWp.rs fun K9 hK9 => ?_
      try simp only [go_sem, wob, fb, fu]
      (repeat (with_reducible refine And.intro ?_ ?_; (first | omega | (intro _; omega) | decide | (exact nfB) | (intro hg; refine ⟨hg, ?_⟩; omega) | (simp; done) | (simp; omega))))
      refine hK9 _ _ ?_
      try clear hK9 K9
      refine AWp.seq fun K10 hK10 => ?_
      refine AWp.cond _ rfl (fun hc1 => ?_) (fun hc1 => ?_)
      · skip
        try simp only [decide_eq_true_eq, decide_eq_false_iff_not, Bool.not_eq_true', Bool.not_eq_false', Bool.and_eq_true, Bool.or_eq_true, Bool.and_eq_false_iff, Bool.or_eq_false_iff, Int.not_lt, Int.not_le, beq_iff_eq, beq_eq_false_iff_ne, ne_eq, Bool.not_eq_true, Bool.not_eq_false] at hc1
        have hlt : k < l.length := by omega
        rw [lsT_drop _ _ hlt] at hYl
        simp only [List.length_cons, List.length_append, List.length_nil] at hYl
        have hkl := h0 _ (List.getElem_mem hlt)
        refine AWp.skip ?_
        refine thenQ_n ?_
        refine hK10 _ _ ?_
        try clear hK10 K10
        refine AWp.seq fun K11 hK11 => ?_
        refine AWp.block ?_
        refine AWp.rs fun K12 hK12 => ?_
        try simp only [go_sem, wob, fb, fu, map_getD cmdD _ _ _ hlt]
        (repeat (with_reducible refine And.intro ?_ ?_; (first | omega | (intro _; omega) | decide | (exact nfB) | (intro hg; refine ⟨hg, ?_⟩; omega) | (simp; done) | (simp; omega))))
        intro b13 fb13
        try simp only [freshL, wob] at fb13
        try simp only [go_sem, wob, fb, fu, map_getD cmdD _ _ _ hlt, fb13]
        (repeat (with_reducible refine And.intro ?_ ?_; (first | omega | (intro _; omega) | decide | (exact nfB) | (intro hg; refine ⟨hg, ?_⟩; omega) | (simp; done) | (simp; omega))))
        refine hK12 _ _ ?_
        try clear hK12 K12
        refine AWp.rk fun K14 hK14 => ?_
        try simp only [go_sem, wob, fb, fu, map_getD cmdD _ _ _ hlt, fb13]
        (repeat (with_reducible refine And.intro ?_ ?_; (first | omega | (intro _; omega) | decide | (exact nfB) | (intro hg; refine ⟨hg, ?_⟩; omega) | (simp; done) | (simp; omega))))
        refine DW.acp [b] [v] rfl rfl rfl rfl (by (try simp only [go_sem, wob, fb, fu, map_getD cmdD _ _ _ hlt, fb13]); rfl) rfl ((wbranch_c T b tb _ (ok _ (List.getElem_mem hlt)) 0 hkl).2 _ _ _ _ (by (try simp only [List.length_cons, List.length_append, List.length_nil]); omega)) ?_
        rintro _ _ ⟨W15, fW15, rfl, rfl⟩
        try simp only [freshT, freshL, wob] at fW15
        try simp only [go_sem, wob, fb, fu, map_getD cmdD _ _ _ hlt, fb13, fW15]
        (repeat (with_reducible refine And.intro ?_ ?_; (first | omega | (intro _; omega) | decide | (exact nfB) | (intro hg; refine ⟨hg, ?_⟩; omega) | (simp; done) | (simp; omega))))
        refine hK14 _ _ ?_
        try clear hK14 K14
        refine blkQ_n (thenQ_n ?_)
        refine hK11 _ _ ?_
        try clear hK11 K11
        refine AWp.mask [true, false, true, true, true] rfl ?_
        simp only [go_sem]
        refine AWp.rk fun K16 hK16 => ?_
        try simp only [go_sem, wob, fb, fu, map_getD cmdD _ _ _ hlt, fb13, fW15]
        (repeat (with_reducible refine And.intro ?_ ?_; (first | omega | (intro _; omega) | decide | (exact nfB) | (intro hg; refine ⟨hg, ?_⟩; omega) | (simp; done) | (simp; omega))))
        refine hK16 _ _ ?_
        try clear hK16 K16
        refine thenQ_n ?_
        refine EndS.mk [true, true, true] [false, false, false, true] [b13] [] [b] [W15] rfl ?_ ?_
        · (try simp only [go_sem, wob, fb, fu, map_getD cmdD _ _ _ hlt, fb13, fW15]) <;> try rfl
        refine .e ⟨_, ?_, k + 1, W15, Y ++ (tW (tabW cmdWs (l[k]'hlt).kind) :: cmT (l[k]'hlt)), rfl, ?_, ?_, ?_, ?_⟩
        · first | omega | (simp; omega) | (grind)
        · (try simp only [go_sem, wob, fb, fu, map_getD cmdD _ _ _ hlt, fb13, fW15]) <;> first | exact ⟨rfl⟩ | (constructor; simp; done)
        · (try simp only [go_sem, wob, fb, fu, map_getD cmdD _ _ _ hlt, fb13, fW15]) <;> first | exact ⟨rfl⟩ | (constructor; simp; done)
        · omega
        · rw [← hY, lsT_drop _ _ hlt]; simp
      · skip
        try simp only [decide_eq_true_eq, decide_eq_false_iff_not, Bool.not_eq_true', Bool.not_eq_false', Bool.and_eq_true, Bool.or_eq_true, Bool.and_eq_false_iff, Bool.or_eq_false_iff, Int.not_lt, Int.not_le, beq_iff_eq, beq_eq_false_iff_ne, ne_eq, Bool.not_eq_true, Bool.not_eq_false] at hc1
        rw [lsT_end _ _ (by omega), List.append_nil] at hY
        subst hY
        refine AWp.exit ?_
        refine thenQ_e (thenQ_e (blkQ_e (thenQ_n ?_)))
        refine hK7 _ _ ?_
        try clear hK7 K7
        refine AWp.mask [true] rfl ?_
        simp only [go_sem]
        refine AWp.seq fun K17 hK17 => ?_
        refine AWp.rs fun K18 hK18 => ?_
        try simp only [go_sem, wob, fb, fu]
        (repeat (with_reducible refine And.intro ?_ ?_; (first | omega | (intro _; omega) | decide | (exact nfB) | (intro hg; refine ⟨hg, ?_⟩; omega) | (simp; done) | (simp; omega))))
        refine hK18 _ _ ?_
        try clear hK18 K18
        refine AWp.mask [false, false, false, false, false, false, true] rfl ?_
        simp only [go_sem]
        refine AWp.cond _ rfl (fun hc2 => ?_) (fun hc2 => ?_)
        · skip
          try simp only [decide_eq_true_eq, decide_eq_false_iff_not, Bool.not_eq_true', Bool.not_eq_false', Bool.and_eq_true, Bool.or_eq_true, Bool.and_eq_false_iff, Bool.or_eq_false_iff, Int.not_lt, Int.not_le, beq_iff_eq, beq_eq_false_iff_ne, ne_eq, Bool.not_eq_true, Bool.not_eq_false] at hc2
          refine AWp.rs fun K19 hK19 => ?_
          try simp only [go_sem, wob, fb, fu]
          (repeat (with_reducible refine And.intro ?_ ?_; (first | omega | (intro _; omega) | decide | (exact nfB) | (intro hg; refine ⟨hg, ?_⟩; omega) | (simp; done) | (simp; omega))))
          refine hK19 _ _ ?_
          try clear hK19 K19
          refine AWp.ret ?_
          try simp only [go_sem, wob, fb, fu]
          rw [chkE, if_pos hc0, if_pos hc2]
        · skip
          try simp only [decide_eq_true_eq, decide_eq_false_iff_not, Bool.not_eq_true', Bool.not_eq_false', Bool.and_eq_true, Bool.or_eq_true, Bool.and_eq_false_iff, Bool.or_eq_false_iff, Int.not_lt, Int.not_le, beq_iff_eq, beq_eq_false_iff_ne, ne_eq, Bool.not_eq_true, Bool.not_eq_false] at hc2
          refine AWp.skip ?_
          refine thenQ_n ?_
          refine hK17 _ _ ?_
          try clear hK17 K17
          refine AWp.rs fun K20 hK20 => ?_
          try simp only [go_sem, wob, fb, fu]
          (repeat (with_reducible refine And.intro ?_ ?_; (first | omega | (intro _; omega) | decide | (exact nfB) | (intro hg; refine ⟨hg, ?_⟩; omega) | (simp; done) | (simp; omega))))
          refine hK20 _ _ ?_
          try clear hK20 K20
          refine AWp.ret ?_
          try simp only [go_sem, wob, fb, fu]
          rw [chkE, if_pos hc0, if_neg (by omega)]
set_option maxRecDepth 4000 in
set_option maxHeartbeats 1000000 in
theorem Show_c (T : Tbl) (l : List Cmd) (hll : l.length * 208 ≤ 140737488355328) (ok : ∀ x ∈ l, x.Ok) (hl : (lsT l).length ≤ 4398046511104) (tb : Tabs T) : PC Tryd.prog T 19 [.d (.slc 12 (l.map cmdD))] (.tup [.d (.slc 3 (toksD (if chkE l = 0 then lsT l else []))), .d (.int .i64 (chkE l))]) := by
  refine ⟨Tryd.call19, PCall.enterS Tryd.func19 rfl Tryd.ntmps19 rfl fun hb => ?_⟩
  simp only [go_sem, Tryd.results19]
  refine AWp.rs fun K1 hK1 => ?_
  try simp only [go_sem, wob]
  (repeat (with_reducible refine And.intro ?_ ?_; (first | omega | (intro _; omega) | decide | (exact nfB) | (intro hg; refine ⟨hg, ?_⟩; omega) | (simp; done) | (simp; omega))))
  refine hK1 _ _ ?_
  try clear hK1 K1
  refine AWp.seq fun K2 hK2 => ?_
  refine AWp.rs fun K3 hK3 => ?_
  try simp only [go_sem, wob]
  (repeat (with_reducible refine And.intro ?_ ?_; (first | omega | (intro _; omega) | decide | (exact nfB) | (intro hg; refine ⟨hg, ?_⟩; omega) | (simp; done) | (simp; omega))))
  refine DW.pcr rfl rfl rfl rfl (Check_c T l hll ok hl tb) rfl rfl ?_
  try simp only [go_sem, wob]
  (repeat (with_reducible refine And.intro ?_ ?_; (first | omega | (intro _; omega) | decide | (exact nfB) | (intro hg; refine ⟨hg, ?_⟩; omega) | (simp; done) | (simp; omega))))
  refine hK3 _ _ ?_
  try clear hK3 K3
  refine AWp.mask [true, false, false, true] rfl ?_
  simp only [go_sem]
  refine AWp.rs fun K4 hK4 => ?_
  try simp only [go_sem, wob]
  (repeat (with_reducible refine And.intro ?_ ?_; (first | omega | (intro _; omega) | decide | (exact nfB) | (intro hg; refine ⟨hg, ?_⟩; omega) | (simp; done) | (simp; omega))))
  refine hK4 _ _ ?_
  try clear hK4 K4
  refine AWp.cond _ rfl (fun hc0 => ?_) (fun hc0 => ?_)
  · skip
    try simp only [decide_eq_true_eq, decide_eq_false_iff_not, Bool.not_eq_true', Bool.not_eq_false', Bool.and_eq_true, Bool.or_eq_true, Bool.and_eq_false_iff, Bool.or_eq_false_iff, Int.not_lt, Int.not_le, beq_iff_eq, beq_eq_false_iff_ne, ne_eq, Bool.not_eq_true, Bool.not_eq_false] at hc0
    refine AWp.rs fun K5 hK5 => ?_
    try simp only [go_sem, wob]
    (repeat (with_reducible refine And.intro ?_ ?_; (first | omega | (intro _; omega) | decide | (exact nfB) | (intro hg; refine ⟨hg, ?_⟩; omega) | (simp; done) | (simp; omega))))
    refine hK5 _ _ ?_
    try clear hK5 K5
    refine AWp.mask [false, true, true] rfl ?_
    simp only [go_sem]
    refine AWp.ret ?_
    try simp only [go_sem, wob]
    simp [hc0, toksD]
  · skip
    try simp only [decide_eq_true_eq, decide_eq_false_iff_not, Bool.not_eq_true', Bool.not_eq_false', Bool.and_eq_true, Bool.or_eq_true, Bool.and_eq_false_iff, Bool.or_eq_false_iff, Int.not_lt, Int.not_le, beq_iff_eq, beq_eq_false_iff_ne, ne_eq, Bool.not_eq_true, Bool.not_eq_false] at hc0
    have hc0f : cFL l 0 = 0 := by rw [chkE] at hc0; split at hc0; assumption; contradiction
    have h0 := cFL_mem _ _ hc0f
    refine AWp.skip ?_
    refine thenQ_n ?_
    refine hK2 _ _ ?_
    try clear hK2 K2
    refine AWp.rs fun K6 hK6 => ?_
    try simp only [go_sem, wob]
    (repeat (with_reducible refine And.intro ?_ ?_; (first | omega | (intro _; omega) | decide | (exact nfB) | (intro hg; refine ⟨hg, ?_⟩; omega) | (simp; done) | (simp; omega))))
    intro b fb
    try simp only [freshL, wob] at fb
    try simp only [go_sem, wob, fb]
    (repeat (with_reducible refine And.intro ?_ ?_; (first | omega | (intro _; omega) | decide | (exact nfB) | (intro hg; refine ⟨hg, ?_⟩; omega) | (simp; done) | (simp; omega))))
    refine hK6 _ _ ?_
    try clear hK6 K6
    refine AWp.mask [true, false, true] rfl ?_
    simp only [go_sem]
    refine AWp.ownNilH b 0 0 3 (by (try simp only [go_sem, wob, fb]); rfl) rfl rfl (by decide) fun u fu => ?_
    try simp only [freshT] at fu
    simp only [go_sem, wob, fb, fu]
    refine AWp.seq fun K7 hK7 => ?_
    refine AWp.rs fun K8 hK8 => ?_
    try simp only [go_sem, wob, fb, fu]
    (repeat (with_reducible refine And.intro ?_ ?_; (first | omega | (intro _; omega) | decide | (exact nfB) | (intro hg; refine ⟨hg, ?_⟩; omega) | (simp; done) | (simp; omega))))
    refine hK8 _ _ ?_
    try clear hK8 K8
    refine AWp.block ?_
    refine AWp.mask [false, true, true, true, true] rfl ?_
    simp only [go_sem]
    refine AWp.loopS [true, true, true] [false, false, false, true] (fun n lc hc => ∃ (k v : Nat) (Y : List Tok), n = l.length - k ∧ EqS lc [(17, .d (.int .i64 k))] ∧ EqS hc (⟨[wob b v Y], [v]⟩) ∧ (k ≤ l.length) ∧ (Y ++ lsT (l.drop k) = lsT l)) rfl ?_ ?_
    · refine ⟨_, 0, u, [], rfl, ?_, ?_, ?_, ?_⟩
      · (try simp only [go_sem, wob, fb, fu]) <;> first | exact ⟨rfl⟩ | (constructor; simp; done)
      · (try simp only [go_sem, wob, fb, fu]) <;> first | exact ⟨rfl⟩ | (constructor; simp; done)
      all_goals (first | omega | rfl | (simp; done) | (simp; omega) | assumption)
    · rintro _ _ _ ⟨k, v, Y, rfl, ⟨rfl⟩, ⟨rfl⟩, hk2, hY⟩
      have hYl := congrArg List.length hY
      simp only [List.length_append] at hYl
      simp only [go_sem]
      refine AWp.rs fun K9 hK9 => ?_
      try simp only [go_sem, wob, fb, fu]
      (repeat (with_reducible refine And.intro ?_ ?_; (first | omega | (intro _; omega) | decide | (exact nfB) | (intro hg; refine ⟨hg, ?_⟩; omega) | (simp; done) | (simp; omega))))
      refine hK9 _ _ ?_
      try clear hK9 K9
      refine AWp.seq fun K10 hK10 => ?_
      refine AWp.cond _ rfl (fun hc1 => ?_) (fun hc1 => ?_)
      · skip
        try simp only [decide_eq_true_eq, decide_eq_false_iff_not, Bool.not_eq_true', Bool.not_eq_false', Bool.and_eq_true, Bool.or_eq_true, Bool.and_eq_false_iff, Bool.or_eq_false_iff, Int.not_lt, Int.not_le, beq_iff_eq, beq_eq_false_iff_ne, ne_eq, Bool.not_eq_true, Bool.not_eq_false] at hc1
        have hlt : k < l.length := by omega
        rw [lsT_drop _ _ hlt] at hYl
        simp only [List.length_cons, List.length_append, List.length_nil] at hYl
        have hkl := h0 _ (List.getElem_mem hlt)
        refine AWp.skip ?_
        refine thenQ_n ?_
        refine hK10 _ _ ?_
        try clear hK10 K10
        refine AWp.seq fun K11 hK11 => ?_
        refine AWp.block ?_
        refine AWp.rs fun K12 hK12 => ?_
        try simp only [go_sem, wob, fb, fu, map_getD cmdD _ _ _ hlt]
        (repeat (with_reducible refine And.intro ?_ ?_; (first | omega | (intro _; omega) | decide | (exact nfB) | (intro hg; refine ⟨hg, ?_⟩; omega) | (simp; done) | (simp; omega))))
        intro b13 fb13
        try simp only [freshL, wob] at fb13
        try simp only [go_sem, wob, fb, fu, map_getD cmdD _ _ _ hlt, fb13]
        (repeat (with_reducible refine And.intro ?_ ?_; (first | omega | (intro _; omega) | decide | (exact nfB) | (intro hg; refine ⟨hg, ?_⟩; omega) | (simp; done) | (simp; omega))))
        refine hK12 _ _ ?_
        try clear hK12 K12
        refine AWp.rk fun K14 hK14 => ?_
        try simp only [go_sem, wob, fb, fu, map_getD cmdD _ _ _ hlt, fb13]
        (repeat (with_reducible refine And.intro ?_ ?_; (first | omega | (intro _; omega) | decide | (exact nfB) | (intro hg; refine ⟨hg, ?_⟩; omega) | (simp; done) | (simp; omega))))
        refine DW.acp [b] [v] rfl rfl rfl rfl (by (try simp only [go_sem, wob, fb, fu, map_getD cmdD _ _ _ hlt, fb13]); rfl) rfl ((wbranch_c T b tb _ (ok _ (List.getElem_mem hlt)) 0 hkl).2 _ _ _ _ (by (try simp only [List.length_cons, List.length_append, List.length_nil]); omega)) ?_
        rintro _ _ ⟨W15, fW15, rfl, rfl⟩
        try simp only [freshT, freshL, wob] at fW15
        try simp only [go_sem, wob, fb, fu, map_getD cmdD _ _ _ hlt, fb13, fW15]
        (repeat (with_reducible refine And.intro ?_ ?_; (first | omega | (intro _; omega) | decide | (exact nfB) | (intro hg; refine ⟨hg, ?_⟩; omega) | (simp; done) | (simp; omega))))
        refine hK14 _ _ ?_
        try clear hK14 K14
        refine blkQ_n (thenQ_n ?_)
        refine hK11 _ _ ?_
        try clear hK11 K11
        refine AWp.mask [true, false, true, true, true] rfl ?_
        simp only [go_sem]
        refine AWp.rk fun K16 hK16 => ?_
        try simp only [go_sem, wob, fb, fu, map_getD cmdD _ _ _ hlt, fb13, fW15]
        (repeat (with_reducible refine And.intro ?_ ?_; (first | omega | (intro _; omega) | decide | (exact nfB) | (intro hg; refine ⟨hg, ?_⟩; omega) | (simp; done) | (simp; omega))))
        refine hK16 _ _ ?_
        try clear hK16 K16
        refine thenQ_n ?_
        refine EndS.mk [true, true, true] [false, false, false, true] [b13] [] [b] [W15] rfl ?_ ?_
        · (try simp only [go_sem, wob, fb, fu, map_getD cmdD _ _ _ hlt, fb13, fW15]) <;> try rfl
        refine .e ⟨_, ?_, k + 1, W15, Y ++ (tW (tabW cmdWs (l[k]'hlt).kind) :: cmT (l[k]'hlt)), rfl, ?_, ?_, ?_, ?_⟩
        · first | omega | (simp; omega) | (grind)
        · (try simp only [go_sem, wob, fb, fu, map_getD cmdD _ _ _ hlt, fb13, fW15]) <;> first | exact ⟨rfl⟩ | (constructor; simp; done)
        · (try simp only [go_sem, wob, fb, fu, map_getD cmdD _ _ _ hlt, fb13, fW15]) <;> first | exact ⟨rfl⟩ | (constructor; simp; done)
        · omega
        · rw [← hY, lsT_drop _ _ hlt]; simp
      · skip
        try simp only [decide_eq_true_eq, decide_eq_false_iff_not, Bool.not_eq_true', Bool.not_eq_false', Bool.and_eq_true, Bool.or_eq_true, Bool.and_eq_false_iff, Bool.or_eq_false_iff, Int.not_lt, Int.not_le, beq_iff_eq, beq_eq_false_iff_ne, ne_eq, Bool.not_eq_true, Bool.not_eq_false] at hc1
        rw [lsT_end _ _ (by omega), List.append_nil] at hY
        subst hY
        refine AWp.exit ?_
        refine thenQ_e (thenQ_e (blkQ_e (thenQ_n ?_)))
        refine hK7 _ _ ?_
        try clear hK7 K7
        refine AWp.mask [true] rfl ?_
        simp only [go_sem]
        refine AWp.rs fun K17 hK17 => ?_
        try simp only [go_sem, wob, fb, fu]
        (repeat (with_reducible refine And.intro ?_ ?_; (first | omega | (intro _; omega) | decide | (exact nfB) | (intro hg; refine ⟨hg, ?_⟩; omega) | (simp; done) | (simp; omega))))
        refine hK17 _ _ ?_
        try clear hK17 K17
        refine AWp.mask [true, true] rfl ?_
        simp only [go_sem]
        refine AWp.ret ?_
        try simp only [go_sem, wob, fb, fu]
        simp [hc0]
set_option maxRecDepth 4000 in
set_option maxHeartbeats 1000000 in
theorem sameTokens_c (T : Tbl) (X : List Tok) (hX : X.length ≤ 4398046511104) : PC Tryd.prog T 21 [.d (.slc 3 (toksD (X))), .d (.slc 3 (toksD (X)))] (.d (.bool true)) := by
  refine ⟨Tryd.call21, PCall.enterS Tryd.func21 rfl Tryd.ntmps21 rfl fun hb => ?_⟩
  simp only [go_sem, Tryd.results21]
  refine AWp.rs fun K1 hK1 => ?_
  try simp only [go_sem]
  (repeat (with_reducible refine And.intro ?_ ?_; (first | omega | (intro _; omega) | decide | (exact nfB) | (intro hg; refine ⟨hg, ?_⟩; omega) | (simp; done) | (simp; omega))))
  refine hK1 _ _ ?_
  try clear hK1 K1
  refine AWp.seq fun K2 hK2 => ?_
  refine AWp.rs fun K3 hK3 => ?_
  try simp only [go_sem]
  (repeat (with_reducible refine And.intro ?_ ?_; (first | omega | (intro _; omega) | decide | (exact nfB) | (intro hg; refine ⟨hg, ?_⟩; omega) | (simp; done) | (simp; omega))))
  refine hK3 _ _ ?_
  try clear hK3 K3
  refine AWp.mask [true, true, false, false, false, false, false, true] rfl ?_
  simp only [go_sem]
  refine AWp.cond _ rfl (fun hc0 => ?_) (fun hc0 => ?_)
  · skip
    simp at hc0
  · skip
    try simp only [decide_eq_true_eq, decide_eq_false_iff_not, Bool.not_eq_true', Bool.not_eq_false', Bool.and_eq_true, Bool.or_eq_true, Bool.and_eq_false_iff, Bool.or_eq_false_iff, Int.not_lt, Int.not_le, beq_iff_eq, beq_eq_false_iff_ne, ne_eq, Bool.not_eq_true, Bool.not_eq_false] at hc0
    refine AWp.skip ?_
    refine thenQ_n ?_
    refine hK2 _ _ ?_
    try clear hK2 K2
    refine AWp.seq fun K4 hK4 => ?_
    refine AWp.rs fun K5 hK5 => ?_
    try simp only [go_sem]
    (repeat (with_reducible refine And.intro ?_ ?_; (first | omega | (intro _; omega) | decide | (exact nfB) | (intro hg; refine ⟨hg, ?_⟩; omega) | (simp; done) | (simp; omega))))
    refine hK5 _ _ ?_
    try clear hK5 K5
    refine AWp.block ?_
    refine AWp.mask [true, true, true] rfl ?_
    simp only [go_sem]
    refine AWp.loopS [true, true] [false, false, true] (fun n lc hc => ∃ (k : Nat), n = X.length - k ∧ EqS lc [(5, .d (.int .i64 k))] ∧ EqS hc (⟨[], []⟩) ∧ (k ≤ X.length)) rfl ?_ ?_
    · refine ⟨_, 0, rfl, ?_, ?_, ?_⟩
      · (try simp only [go_sem]) <;> first | exact ⟨rfl⟩ | (constructor; simp; done)
      · (try simp only [go_sem]) <;> first | exact ⟨rfl⟩ | (constructor; simp; done)
      all_goals (first | omega | rfl | (simp; done) | (simp; omega) | assumption)
    · rintro _ _ _ ⟨k, rfl, ⟨rfl⟩, ⟨rfl⟩, hk⟩
      simp only [go_sem]
      refine AWp.seq fun K6 hK6 => ?_
      refine AWp.rs fun K7 hK7 => ?_
      try simp only [go_sem]
      (repeat (with_reducible refine And.intro ?_ ?_; (first | omega | (intro _; omega) | decide | (exact nfB) | (intro hg; refine ⟨hg, ?_⟩; omega) | (simp; done) | (simp; omega))))
      refine hK7 _ _ ?_
      try clear hK7 K7
      refine AWp.cond _ rfl (fun hc1 => ?_) (fun hc1 => ?_)
      · skip
        try simp only [decide_eq_true_eq, decide_eq_false_iff_not, Bool.not_eq_true', Bool.not_eq_false', Bool.and_eq_true, Bool.or_eq_true, Bool.and_eq_false_iff, Bool.or_eq_false_iff, Int.not_lt, Int.not_le, beq_iff_eq, beq_eq_false_iff_ne, ne_eq, Bool.not_eq_true, Bool.not_eq_false] at hc1
        have hlt : k < X.length := by omega
        refine AWp.skip ?_
        refine thenQ_n ?_
        refine hK6 _ _ ?_
        try clear hK6 K6
        refine AWp.mask [true, true, true] rfl ?_
        simp only [go_sem]
        refine AWp.seq fun K8 hK8 => ?_
        refine AWp.block ?_
        refine AWp.ds true [0, 1, 2, 3, 4, 5, 6, 7, 8] rfl (by kernel_rfl) fun K9 hK9 => ?_
        try simp only [go_sem, toksD_get X k _ hlt, tokD]
        (repeat (with_reducible refine And.intro ?_ ?_; (first | omega | (intro _; omega) | decide | (exact nfB) | (intro hg; refine ⟨hg, ?_⟩; omega) | (simp; done) | (simp; omega))))
        refine hK9 _ _ ?_
        try clear hK9 K9
        refine AWp.mask [true, true, true, false, false, false, false, false, false, false, false, true] rfl ?_
        simp only [go_sem]
        refine AWp.cond _ rfl (fun hc2 => ?_) (fun hc2 => ?_)
        · skip
          simp at hc2
        · skip
          try simp only [decide_eq_true_eq, decide_eq_false_iff_not, Bool.not_eq_true', Bool.not_eq_false', Bool.and_eq_true, Bool.or_eq_true, Bool.and_eq_false_iff, Bool.or_eq_false_iff, Int.not_lt, Int.not_le, beq_iff_eq, beq_eq_false_iff_ne, ne_eq, Bool.not_eq_true, Bool.not_eq_false] at hc2
          refine AWp.skip ?_
          refine blkQ_n (thenQ_n ?_)
          refine hK8 _ _ ?_
          try clear hK8 K8
          refine AWp.rk fun K10 hK10 => ?_
          try simp only [go_sem, toksD_get X k _ hlt, tokD]
          (repeat (with_reducible refine And.intro ?_ ?_; (first | omega | (intro _; omega) | decide | (exact nfB) | (intro hg; refine ⟨hg, ?_⟩; omega) | (simp; done) | (simp; omega))))
          refine hK10 _ _ ?_
          try clear hK10 K10
          refine thenQ_n ?_
          refine EndS.mkr [true, true] [false, false, true] rfl ?_ ?_
          · (try simp only [go_sem, toksD_get X k _ hlt, tokD]) <;> try rfl
          refine .e ⟨_, ?_, k + 1, rfl, ?_, ?_, ?_⟩
          · first | omega | (simp; omega) | (grind)
          · (try simp only [go_sem, toksD_get X k _ hlt, tokD]) <;> first | exact ⟨rfl⟩ | (constructor; simp; done)
          · (try simp only [go_sem, toksD_get X k _ hlt, tokD]) <;> first | exact ⟨rfl⟩ | (constructor; simp; done)
          all_goals (first | omega | assumption | grind)
      · skip
        try simp only [decide_eq_true_eq, decide_eq_false_iff_not, Bool.not_eq_true', Bool.not_eq_false', Bool.and_eq_true, Bool.or_eq_true, Bool.and_eq_false_iff, Bool.or_eq_false_iff, Int.not_lt, Int.not_le, beq_iff_eq, beq_eq_false_iff_ne, ne_eq, Bool.not_eq_true, Bool.not_eq_false] at hc1
        refine AWp.exit ?_
        refine thenQ_e (thenQ_e (blkQ_e (thenQ_n ?_)))
        refine hK4 _ _ ?_
        try clear hK4 K4
        refine AWp.mask [] rfl ?_
        simp only [go_sem]
        refine AWp.rs fun K11 hK11 => ?_
        try simp only [go_sem]
        (repeat (with_reducible refine And.intro ?_ ?_; (first | omega | (intro _; omega) | decide | (exact nfB) | (intro hg; refine ⟨hg, ?_⟩; omega) | (simp; done) | (simp; omega))))
        refine hK11 _ _ ?_
        try clear hK11 K11
        refine AWp.ret ?_
        try simp only [go_sem]
        skip
set_option maxRecDepth 4000 in
set_option maxHeartbeats 1000000 in
theorem scriptChecks_c (T : Tbl) (l : List Cmd) (hll : l.length * 208 ≤ 140737488355328) (ok : ∀ x ∈ l, x.Ok) (hl : (lsT l).length ≤ 4398046511104) (tb : Tabs T) : PC Tryd.prog T 3 [.d (.slc 12 (l.map cmdD))] (.d (.bool true)) := by
  refine ⟨Tryd.call3, PCall.enterS Tryd.func3 rfl Tryd.ntmps3 rfl fun hb => ?_⟩
  simp only [go_sem, Tryd.results3]
  refine AWp.rs fun K1 hK1 => ?_
  try simp only [go_sem]
  (repeat (with_reducible refine And.intro ?_ ?_; (first | omega | (intro _; omega) | decide | (exact nfB) | (intro hg; refine ⟨hg, ?_⟩; omega) | (simp; done) | (simp; omega))))
  refine hK1 _ _ ?_
  try clear hK1 K1
  refine AWp.rs fun K2 hK2 => ?_
  try simp only [go_sem]
  (repeat (with_reducible refine And.intro ?_ ?_; (first | omega | (intro _; omega) | decide | (exact nfB) | (intro hg; refine ⟨hg, ?_⟩; omega) | (simp; done) | (simp; omega))))
  refine DW.pcr rfl rfl rfl rfl (commands_c T _ hll ok) rfl rfl ?_
  try simp only [go_sem]
  (repeat (with_reducible refine And.intro ?_ ?_; (first | omega | (intro _; omega) | decide | (exact nfB) | (intro hg; refine ⟨hg, ?_⟩; omega) | (simp; done) | (simp; omega))))
  refine hK2 _ _ ?_
  try clear hK2 K2
  refine AWp.rs fun K3 hK3 => ?_
  try simp only [go_sem]
  (repeat (with_reducible refine And.intro ?_ ?_; (first | omega | (intro _; omega) | decide | (exact nfB) | (intro hg; refine ⟨hg, ?_⟩; omega) | (simp; done) | (simp; omega))))
  refine DW.pcr rfl rfl rfl rfl (Check_c T l hll ok hl tb) rfl rfl ?_
  try simp only [go_sem]
  (repeat (with_reducible refine And.intro ?_ ?_; (first | omega | (intro _; omega) | decide | (exact nfB) | (intro hg; refine ⟨hg, ?_⟩; omega) | (simp; done) | (simp; omega))))
  refine hK3 _ _ ?_
  try clear hK3 K3
  refine AWp.mask [true, false, true, true] rfl ?_
  simp only [go_sem]
  refine AWp.rs fun K4 hK4 => ?_
  try simp only [go_sem]
  (repeat (with_reducible refine And.intro ?_ ?_; (first | omega | (intro _; omega) | decide | (exact nfB) | (intro hg; refine ⟨hg, ?_⟩; omega) | (simp; done) | (simp; omega))))
  refine DW.pcr rfl rfl rfl rfl (cmdsFault_c T l hll ok hl) rfl rfl ?_
  try simp only [go_sem]
  (repeat (with_reducible refine And.intro ?_ ?_; (first | omega | (intro _; omega) | decide | (exact nfB) | (intro hg; refine ⟨hg, ?_⟩; omega) | (simp; done) | (simp; omega))))
  refine hK4 _ _ ?_
  try clear hK4 K4
  refine AWp.rs fun K5 hK5 => ?_
  try simp only [go_sem]
  (repeat (with_reducible refine And.intro ?_ ?_; (first | omega | (intro _; omega) | decide | (exact nfB) | (intro hg; refine ⟨hg, ?_⟩; omega) | (simp; done) | (simp; omega))))
  refine DW.pcgr rfl rfl rfl rfl rfl (fun hg => sameCommands_c T _ hll ok) (fun hg => by (try simp only [go_sem]) <;> first | exact hg | (simpa using hg) | grind) rfl rfl ?_
  try simp only [go_sem]
  (repeat (with_reducible refine And.intro ?_ ?_; (first | omega | (intro _; omega) | decide | (exact nfB) | (intro hg; refine ⟨hg, ?_⟩; omega) | (simp; done) | (simp; omega))))
  refine hK5 _ _ ?_
  try clear hK5 K5
  refine AWp.mask [false, true] rfl ?_
  simp only [go_sem]
  refine AWp.ret ?_
  try simp only [go_sem]
  simp
set_option maxRecDepth 4000 in
set_option maxHeartbeats 1000000 in
theorem scriptShows_c (T : Tbl) (l : List Cmd) (hll : l.length * 208 ≤ 140737488355328) (ok : ∀ x ∈ l, x.Ok) (hl : (lsT l).length ≤ 4398046511104) (tb : Tabs T) : PC Tryd.prog T 4 [.d (.slc 12 (l.map cmdD))] (.d (.bool true)) := by
  refine ⟨Tryd.call4, PCall.enterS Tryd.func4 rfl Tryd.ntmps4 rfl fun hb => ?_⟩
  simp only [go_sem, Tryd.results4]
  refine AWp.rs fun K1 hK1 => ?_
  try simp only [go_sem]
  (repeat (with_reducible refine And.intro ?_ ?_; (first | omega | (intro _; omega) | decide | (exact nfB) | (intro hg; refine ⟨hg, ?_⟩; omega) | (simp; done) | (simp; omega))))
  refine hK1 _ _ ?_
  try clear hK1 K1
  refine AWp.rs fun K2 hK2 => ?_
  try simp only [go_sem]
  (repeat (with_reducible refine And.intro ?_ ?_; (first | omega | (intro _; omega) | decide | (exact nfB) | (intro hg; refine ⟨hg, ?_⟩; omega) | (simp; done) | (simp; omega))))
  refine DW.pcr rfl rfl rfl rfl (commands_c T _ hll ok) rfl rfl ?_
  try simp only [go_sem]
  (repeat (with_reducible refine And.intro ?_ ?_; (first | omega | (intro _; omega) | decide | (exact nfB) | (intro hg; refine ⟨hg, ?_⟩; omega) | (simp; done) | (simp; omega))))
  refine hK2 _ _ ?_
  try clear hK2 K2
  refine AWp.rs fun K3 hK3 => ?_
  try simp only [go_sem]
  (repeat (with_reducible refine And.intro ?_ ?_; (first | omega | (intro _; omega) | decide | (exact nfB) | (intro hg; refine ⟨hg, ?_⟩; omega) | (simp; done) | (simp; omega))))
  refine DW.pcr rfl rfl rfl rfl (Show_c T l hll ok hl tb) rfl rfl ?_
  try simp only [go_sem]
  (repeat (with_reducible refine And.intro ?_ ?_; (first | omega | (intro _; omega) | decide | (exact nfB) | (intro hg; refine ⟨hg, ?_⟩; omega) | (simp; done) | (simp; omega))))
  refine hK3 _ _ ?_
  try clear hK3 K3
  refine AWp.mask [true, false, true, true, true] rfl ?_
  simp only [go_sem]
  refine AWp.rs fun K4 hK4 => ?_
  try simp only [go_sem]
  (repeat (with_reducible refine And.intro ?_ ?_; (first | omega | (intro _; omega) | decide | (exact nfB) | (intro hg; refine ⟨hg, ?_⟩; omega) | (simp; done) | (simp; omega))))
  refine DW.pcr rfl rfl rfl rfl (cmdsShown_c T l hll ok hl) rfl rfl ?_
  try simp only [go_sem]
  (repeat (with_reducible refine And.intro ?_ ?_; (first | omega | (intro _; omega) | decide | (exact nfB) | (intro hg; refine ⟨hg, ?_⟩; omega) | (simp; done) | (simp; omega))))
  refine hK4 _ _ ?_
  try clear hK4 K4
  refine AWp.mask [true, true, true, true, true, true] rfl ?_
  simp only [go_sem]
  refine AWp.rs fun K5 hK5 => ?_
  try simp only [go_sem]
  (repeat (with_reducible refine And.intro ?_ ?_; (first | omega | (intro _; omega) | decide | (exact nfB) | (intro hg; refine ⟨hg, ?_⟩; omega) | (simp; done) | (simp; omega))))
  refine DW.pcgr rfl rfl rfl rfl rfl (fun hg => sameTokens_c T _ (by split <;> first | exact hl | (simp; done))) (fun hg => by (try simp only [go_sem]) <;> first | exact hg | (simpa using hg) | grind) rfl rfl ?_
  try simp only [go_sem]
  (repeat (with_reducible refine And.intro ?_ ?_; (first | omega | (intro _; omega) | decide | (exact nfB) | (intro hg; refine ⟨hg, ?_⟩; omega) | (simp; done) | (simp; omega))))
  refine DW.pcgr rfl rfl rfl rfl rfl (fun hg => sameCommands_c T _ hll ok) (fun hg => by (try simp only [go_sem]) <;> first | exact hg | (simpa using hg) | grind) rfl rfl ?_
  try simp only [go_sem]
  (repeat (with_reducible refine And.intro ?_ ?_; (first | omega | (intro _; omega) | decide | (exact nfB) | (intro hg; refine ⟨hg, ?_⟩; omega) | (simp; done) | (simp; omega))))
  refine hK5 _ _ ?_
  try clear hK5 K5
  refine AWp.mask [false, true] rfl ?_
  simp only [go_sem]
  refine AWp.ret ?_
  try simp only [go_sem]
  simp
end Go.Proofs.YtnoboapafndnlaaDoor

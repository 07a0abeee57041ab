/- What is amiss with commands. -/
import Derived.Test.YtnoboapafndnlaaDoorAvTy
import Derived.Test.YtnoboapafndnlaaDoorFlt
import Derived.Test.YtnoboapafndnlaaDoorCkt
namespace Go.Proofs.YtnoboapafndnlaaDoor
set_option linter.unusedSimpArgs false
set_option linter.unusedVariables false
theorem checkTest_c (T : Tbl) (t : Tst) (ok : t.Ok) (d : Int) (hd : -9 ≤ d) (hd2 : d ≤ 7) : PC Tryd.prog T 172 [.agg (tstA t), .d (.int .i64 d)] (.d (.int .i64 (tF t d))) := by
  induction t using Tst.ind generalizing d with
  | h t ih => exact checkTest_step T t ok d hd hd2 fun x hx d h1 h2 => ih x hx (ok.inv.2.2.2 x hx) d h1 h2
mutual
def cF : Cmd → Int → Int
  | .mk k tx t a e, d => if inB k 1 10 = false then 2 else if 6 < d then 1 else if k = 2 then (if 0 < tx.length then 3 else if tF t 1 = 0 then (if cFL a (d + 1) = 0 then cFE e d else cFL a (d + 1)) else tF t 1)
    else if okC (.mk k tx t a e) = true then 0 else 3
def cFL : List Cmd → Int → Int
  | [], _ => 0
  | x :: l, d => if cF x d = 0 then cFL l d else cF x d
def cFE : List Cmd → Int → Int
  | [], _ => 0
  | [x], d => if x.kind = 2 then cF x d else cF x (d + 1)
  | x :: y :: l, d => if cF x (d + 1) = 0 then cFL (y :: l) (d + 1) else cF x (d + 1)
end
theorem cF_eq (c : Cmd) (d : Int) : cF c d = if inB c.kind 1 10 = false then 2 else if 6 < d then 1 else if c.kind = 2 then (if 0 < c.texts.length then 3 else if tF c.test 1 = 0 then (if cFL c.thn (d + 1) = 0 then cFE c.els d else cFL c.thn (d + 1)) else tF c.test 1) else if okC c = true then 0 else 3 := by
  cases c; rw [cF]; rfl
theorem cFL_drop (l : List Cmd) (d : Int) (k : Nat) (h : k < l.length) : cFL (l.drop k) d = if cF (l[k]'h) d = 0 then cFL (l.drop (k + 1)) d else cF (l[k]'h) d := by
  rw [List.drop_eq_getElem_cons h, cFL]
theorem cFL_end (l : List Cmd) (d : Int) (k : Nat) (h : l.length ≤ k) : cFL (l.drop k) d = 0 := by rw [List.drop_eq_nil_of_le h, cFL]
def elsifC (c : Cmd) : Bool := decide (c.els.length = 1) && decide ((c.els.headD (.mk 0 [] default [] [])).kind = 2)
theorem cFE_t (c : Cmd) (d : Int) (h : elsifC c = true) (h1 : 0 < c.els.length) : cFE c.els d = cF (c.els[0]'h1) d := by
  obtain ⟨k, tx, t, a, e⟩ := c
  simp only [elsifC, Cmd.els] at *
  match e, h, h1 with
  | [x], h, h1 => simp at h; simp [cFE, h]
theorem cFE_f (c : Cmd) (d : Int) (h : elsifC c = false) : cFE c.els d = cFL c.els (d + 1) := by
  obtain ⟨k, tx, t, a, e⟩ := c
  simp only [elsifC, Cmd.els] at *
  match e, h with
  | [], h => simp [cFE, cFL]
  | [x], h => simp at h; simp [cFE, cFL, h]
  | x :: y :: l, h => simp [cFE, cFL]
theorem cF_kind (c : Cmd) (d : Int) (h : inB c.kind 1 10 = false) : cF c d = 2 := by rw [cF_eq, if_pos h]
theorem cF_deep (c : Cmd) (d : Int) (h : inB c.kind 1 10 = true) (h2 : 6 < d) : cF c d = 1 := by rw [cF_eq, if_neg (by rw [h]; simp), if_pos h2]
theorem cF_flat (c : Cmd) (d : Int) (h : inB c.kind 1 10 = true) (h2 : d ≤ 6) (h3 : c.kind ≠ 2) : cF c d = if okC c = true then 0 else 3 := by rw [cF_eq, if_neg (by rw [h]; simp), if_neg (by omega), if_neg h3]
theorem cF_if (c : Cmd) (d : Int) (h2 : d ≤ 6) (h3 : c.kind = 2) : cF c d = if 0 < c.texts.length then 3 else if tF c.test 1 = 0 then (if cFL c.thn (d + 1) = 0 then cFE c.els d else cFL c.thn (d + 1)) else tF c.test 1 := by rw [cF_eq, if_neg (by rw [h3]; simp [inB]), if_neg (by omega), if_pos h3]
theorem elsD_kind (c : Cmd) (h : 0 < c.els.length) : elsifC c = (decide (c.els.length = 1) && decide ((c.els[0]'h).kind = 2)) := by
  obtain ⟨k, tx, t, a, e⟩ := c
  simp only [elsifC, Cmd.els] at *
  match e, h with
  | x :: l, h => rfl
theorem elsifC_1 (c : Cmd) (h : ¬ c.els.length = 1) : elsifC c = false := by simp [elsifC, h]
theorem okC_eq (c : Cmd) : okC c = (decide (c.test.kind = 0) && bareB c.test false false false false false false && decide (c.thn.length = 0) && decide (c.els.length = 0) &&
  (if c.kind = 1 ∨ c.kind = 8 ∨ c.kind = 9 then decide (0 < c.texts.length) else if inB c.kind 5 7 then decide (c.texts.length = 1) else decide (c.texts.length = 0))) := by rw [okC]
set_option maxRecDepth 4000 in
set_option maxHeartbeats 1000000 in
theorem elsif_0 (T : Tbl) (c : Cmd) (h0 : c.els.length = 0) : PC Tryd.prog T 179 [.agg (cmdA c)] (.d (.bool (elsifC c))) := by
  refine ⟨Tryd.call179, PCall.enterS Tryd.func179 rfl Tryd.ntmps179 rfl fun hb => ?_⟩
  have hE : elsD c = [] := by rw [elsD_eq, List.map_eq_nil_iff]; exact List.eq_nil_of_length_eq_zero h0
  have hi0 : ((c.els.length : Int) = 1) = False := by simp only [eq_iff_iff, iff_false]; omega
  simp only [go_sem, Tryd.results179]
  refine AWp.rs fun K1 hK1 => ?_
  try simp only [go_sem, hE, List.getD_nil, List.take_nil, List.map_nil, List.headD_nil, hi0, decide_false]
  (repeat (with_reducible refine And.intro ?_ ?_; (first | omega | (intro _; omega) | decide | (exact nfB) | (intro hg; refine ⟨hg, ?_⟩; omega) | (simp; done) | (simp; omega))))
  intro b1 fb1
  try simp only [freshL] at fb1
  try simp only [go_sem, hE, List.getD_nil, List.take_nil, List.map_nil, List.headD_nil, hi0, decide_false, fb1]
  (repeat (with_reducible refine And.intro ?_ ?_; (first | omega | (intro _; omega) | decide | (exact nfB) | (intro hg; refine ⟨hg, ?_⟩; omega) | (simp; done) | (simp; omega))))
  refine hK1 _ _ ?_
  try clear hK1 K1
  refine AWp.rs fun K2 hK2 => ?_
  try simp only [go_sem, hE, List.getD_nil, List.take_nil, List.map_nil, List.headD_nil, hi0, decide_false, fb1]
  (repeat (with_reducible refine And.intro ?_ ?_; (first | omega | (intro _; omega) | decide | (exact nfB) | (intro hg; refine ⟨hg, ?_⟩; omega) | (simp; done) | (simp; omega))))
  refine hK2 _ _ ?_
  try clear hK2 K2
  refine AWp.mask [false, false, true] rfl ?_
  simp only [go_sem]
  refine AWp.ret ?_
  try simp only [go_sem, hE, List.getD_nil, List.take_nil, List.map_nil, List.headD_nil, hi0, decide_false, fb1]
  rw [elsifC_1 c (by omega), Bool.and_false]
set_option maxRecDepth 4000 in
set_option maxHeartbeats 1000000 in
theorem elsif_1 (T : Tbl) (c : Cmd) (h0 : 0 < c.els.length) : PC Tryd.prog T 179 [.agg (cmdA c)] (.d (.bool (elsifC c))) := by
  refine ⟨Tryd.call179, PCall.enterS Tryd.func179 rfl Tryd.ntmps179 rfl fun hb => ?_⟩
  have el1 : ((c.els.length : Int) = 1) = (c.els.length = 1) := by simp only [eq_iff_iff]; omega
  simp only [go_sem, Tryd.results179]
  refine AWp.rs fun K1 hK1 => ?_
  try simp only [go_sem, elsD_get c _ _ h0, el1]
  (repeat (with_reducible refine And.intro ?_ ?_; (first | omega | (intro _; omega) | decide | (exact nfB) | (intro hg; refine ⟨hg, ?_⟩; omega) | (simp; done) | (simp; omega))))
  intro b1 fb1
  try simp only [freshL] at fb1
  try simp only [go_sem, elsD_get c _ _ h0, el1, fb1]
  (repeat (with_reducible refine And.intro ?_ ?_; (first | omega | (intro _; omega) | decide | (exact nfB) | (intro hg; refine ⟨hg, ?_⟩; omega) | (simp; done) | (simp; omega))))
  refine hK1 _ _ ?_
  try clear hK1 K1
  refine AWp.rs fun K2 hK2 => ?_
  try simp only [go_sem, elsD_get c _ _ h0, el1, fb1]
  (repeat (with_reducible refine And.intro ?_ ?_; (first | omega | (intro _; omega) | decide | (exact nfB) | (intro hg; refine ⟨hg, ?_⟩; omega) | (simp; done) | (simp; omega))))
  refine hK2 _ _ ?_
  try clear hK2 K2
  refine AWp.mask [false, false, true] rfl ?_
  simp only [go_sem]
  refine AWp.ret ?_
  try simp only [go_sem, elsD_get c _ _ h0, el1, fb1]
  rw [elsD_kind c h0]
theorem elsif_c (T : Tbl) (c : Cmd) : PC Tryd.prog T 179 [.agg (cmdA c)] (.d (.bool (elsifC c))) := by
  rcases Nat.eq_zero_or_pos c.els.length with h | h
  · exact elsif_0 T c h
  · exact elsif_1 T c h
set_option maxRecDepth 4000 in
set_option maxHeartbeats 1000000 in
theorem checkAll_step (T : Tbl) (l : List Cmd) (hl : l.length * 208 ≤ 140737488355328) (d : Int) (hd : -9 ≤ d) (hd2 : d ≤ 7) (ih : ∀ x ∈ l, PC Tryd.prog T 108 [.agg (cmdA x), .d (.int .i64 d)] (.d (.int .i64 (cF x d)))) : PC Tryd.prog T 56 [.d (.slc 12 (l.map cmdD)), .d (.int .i64 d)] (.d (.int .i64 (cFL l d))) := by
  refine ⟨Tryd.call56, PCall.enterS Tryd.func56 rfl Tryd.ntmps56 rfl fun hb => ?_⟩
  simp only [go_sem, Tryd.results56]
  refine AWp.rs fun K1 hK1 => ?_
  try simp only [go_sem]
  (repeat (with_reducible refine And.intro ?_ ?_; (first | omega | (intro _; omega) | decide | (exact nfB) | (intro hg; refine ⟨hg, ?_⟩; omega) | (simp; done) | (simp; omega))))
  refine hK1 _ _ ?_
  try clear hK1 K1
  refine AWp.seq fun K2 hK2 => ?_
  refine AWp.rs fun K3 hK3 => ?_
  try simp only [go_sem]
  (repeat (with_reducible refine And.intro ?_ ?_; (first | omega | (intro _; omega) | decide | (exact nfB) | (intro hg; refine ⟨hg, ?_⟩; omega) | (simp; done) | (simp; omega))))
  refine hK3 _ _ ?_
  try clear hK3 K3
  refine AWp.block ?_
  refine AWp.mask [false, true, false, true, true, true] rfl ?_
  simp only [go_sem]
  refine AWp.loopS [true, true, true] [false, false, false, true] (fun n lc hc => ∃ (k : Nat), n = l.length - k ∧ EqS lc [(10, .d (.int .i64 k))] ∧ EqS hc (⟨[], []⟩) ∧ (k ≤ l.length) ∧ (cFL l d = cFL (l.drop k) d)) rfl ?_ ?_
  · refine ⟨_, 0, rfl, ?_, ?_, ?_, ?_⟩
    · (try simp only [go_sem]) <;> first | exact ⟨rfl⟩ | (constructor; simp; done)
    · (try simp only [go_sem]) <;> first | exact ⟨rfl⟩ | (constructor; simp; done)
    all_goals (first | omega | rfl)
  · rintro _ _ _ ⟨k, rfl, ⟨rfl⟩, ⟨rfl⟩, hk0, htf⟩
    simp only [go_sem]
    refine AWp.rs fun K4 hK4 => ?_
    try simp only [go_sem]
    (repeat (with_reducible refine And.intro ?_ ?_; (first | omega | (intro _; omega) | decide | (exact nfB) | (intro hg; refine ⟨hg, ?_⟩; omega) | (simp; done) | (simp; omega))))
    refine hK4 _ _ ?_
    try clear hK4 K4
    refine AWp.seq fun K5 hK5 => ?_
    refine AWp.cond _ rfl (fun hc0 => ?_) (fun hc0 => ?_)
    · skip
      try simp only [decide_eq_true_eq, decide_eq_false_iff_not, Bool.not_eq_true', Bool.not_eq_false', Bool.and_eq_true, Bool.or_eq_true, Bool.and_eq_false_iff, Bool.or_eq_false_iff, Int.not_lt, Int.not_le, beq_iff_eq, beq_eq_false_iff_ne, ne_eq, Bool.not_eq_true, Bool.not_eq_false] at hc0
      have hlt : k < l.length := by omega
      refine AWp.skip ?_
      refine thenQ_n ?_
      refine hK5 _ _ ?_
      try clear hK5 K5
      refine AWp.seq fun K6 hK6 => ?_
      refine AWp.block ?_
      refine AWp.rs fun K7 hK7 => ?_
      try simp only [go_sem, map_getD cmdD _ _ _ hlt]
      (repeat (with_reducible refine And.intro ?_ ?_; (first | omega | (intro _; omega) | decide | (exact nfB) | (intro hg; refine ⟨hg, ?_⟩; omega) | (simp; done) | (simp; omega))))
      intro b8 fb8
      try simp only [freshL] at fb8
      try simp only [go_sem, map_getD cmdD _ _ _ hlt, fb8]
      (repeat (with_reducible refine And.intro ?_ ?_; (first | omega | (intro _; omega) | decide | (exact nfB) | (intro hg; refine ⟨hg, ?_⟩; omega) | (simp; done) | (simp; omega))))
      refine hK7 _ _ ?_
      try clear hK7 K7
      refine AWp.rs fun K9 hK9 => ?_
      try simp only [go_sem, map_getD cmdD _ _ _ hlt, fb8]
      (repeat (with_reducible refine And.intro ?_ ?_; (first | omega | (intro _; omega) | decide | (exact nfB) | (intro hg; refine ⟨hg, ?_⟩; omega) | (simp; done) | (simp; omega))))
      refine DW.pcr rfl rfl rfl rfl (ih _ (List.getElem_mem hlt)) rfl rfl ?_
      try simp only [go_sem, map_getD cmdD _ _ _ hlt, fb8]
      (repeat (with_reducible refine And.intro ?_ ?_; (first | omega | (intro _; omega) | decide | (exact nfB) | (intro hg; refine ⟨hg, ?_⟩; omega) | (simp; done) | (simp; omega))))
      refine hK9 _ _ ?_
      try clear hK9 K9
      refine AWp.mask [true, false, true, true, true, true] rfl ?_
      simp only [go_sem]
      refine AWp.rs fun K10 hK10 => ?_
      try simp only [go_sem, map_getD cmdD _ _ _ hlt, fb8]
      (repeat (with_reducible refine And.intro ?_ ?_; (first | omega | (intro _; omega) | decide | (exact nfB) | (intro hg; refine ⟨hg, ?_⟩; omega) | (simp; done) | (simp; omega))))
      refine hK10 _ _ ?_
      try clear hK10 K10
      refine AWp.cond _ rfl (fun hc1 => ?_) (fun hc1 => ?_)
      · skip
        try simp only [decide_eq_true_eq, decide_eq_false_iff_not, Bool.not_eq_true', Bool.not_eq_false', Bool.and_eq_true, Bool.or_eq_true, Bool.and_eq_false_iff, Bool.or_eq_false_iff, Int.not_lt, Int.not_le, beq_iff_eq, beq_eq_false_iff_ne, ne_eq, Bool.not_eq_true, Bool.not_eq_false] at hc1
        refine AWp.rs fun K11 hK11 => ?_
        try simp only [go_sem, map_getD cmdD _ _ _ hlt, fb8]
        (repeat (with_reducible refine And.intro ?_ ?_; (first | omega | (intro _; omega) | decide | (exact nfB) | (intro hg; refine ⟨hg, ?_⟩; omega) | (simp; done) | (simp; omega))))
        refine hK11 _ _ ?_
        try clear hK11 K11
        refine AWp.mask [false, true] rfl ?_
        simp only [go_sem]
        refine AWp.ret ?_
        try simp only [go_sem, map_getD cmdD _ _ _ hlt, fb8]
        rw [htf, cFL_drop _ _ _ hlt, if_neg hc1]
      · skip
        try simp only [decide_eq_true_eq, decide_eq_false_iff_not, Bool.not_eq_true', Bool.not_eq_false', Bool.and_eq_true, Bool.or_eq_true, Bool.and_eq_false_iff, Bool.or_eq_false_iff, Int.not_lt, Int.not_le, beq_iff_eq, beq_eq_false_iff_ne, ne_eq, Bool.not_eq_true, Bool.not_eq_false] at hc1
        refine AWp.skip ?_
        refine blkQ_n (thenQ_n ?_)
        refine hK6 _ _ ?_
        try clear hK6 K6
        refine AWp.rk fun K12 hK12 => ?_
        try simp only [go_sem, map_getD cmdD _ _ _ hlt, fb8]
        (repeat (with_reducible refine And.intro ?_ ?_; (first | omega | (intro _; omega) | decide | (exact nfB) | (intro hg; refine ⟨hg, ?_⟩; omega) | (simp; done) | (simp; omega))))
        refine hK12 _ _ ?_
        try clear hK12 K12
        refine thenQ_n ?_
        refine EndS.mk [true, false, true, true] [false, false, false, false, true] [b8] [] [] [] rfl ?_ ?_
        · (try simp only [go_sem, map_getD cmdD _ _ _ hlt, fb8]) <;> try rfl
        refine .e ⟨_, ?_, k + 1, rfl, ?_, ?_, ?_, ?_⟩
        · first | omega | (simp; omega) | (grind)
        · (try simp only [go_sem, map_getD cmdD _ _ _ hlt, fb8]) <;> first | exact ⟨rfl⟩ | (constructor; simp; done)
        · (try simp only [go_sem, map_getD cmdD _ _ _ hlt, fb8]) <;> first | exact ⟨rfl⟩ | (constructor; simp; done)
        · omega
        · rw [htf, cFL_drop _ _ _ hlt, if_pos hc1]
    · skip
      try simp only [decide_eq_true_eq, decide_eq_false_iff_not, Bool.not_eq_true', Bool.not_eq_false', Bool.and_eq_true, Bool.or_eq_true, Bool.and_eq_false_iff, Bool.or_eq_false_iff, Int.not_lt, Int.not_le, beq_iff_eq, beq_eq_false_iff_ne, ne_eq, Bool.not_eq_true, Bool.not_eq_false] at hc0
      refine AWp.exit ?_
      refine thenQ_e (thenQ_e (blkQ_e (thenQ_n ?_)))
      refine hK2 _ _ ?_
      try clear hK2 K2
      refine AWp.mask [] rfl ?_
      simp only [go_sem]
      refine AWp.rs fun K13 hK13 => ?_
      try simp only [go_sem]
      (repeat (with_reducible refine And.intro ?_ ?_; (first | omega | (intro _; omega) | decide | (exact nfB) | (intro hg; refine ⟨hg, ?_⟩; omega) | (simp; done) | (simp; omega))))
      refine hK13 _ _ ?_
      try clear hK13 K13
      refine AWp.ret ?_
      try simp only [go_sem]
      rw [htf, cFL_end _ _ _ (by omega)]
set_option maxRecDepth 4000 in
set_option maxHeartbeats 1000000 in
theorem listFault_step (T : Tbl) (l : List Cmd) (hl : l.length * 208 ≤ 140737488355328) (d : Int) (hd : -9 ≤ d) (hd2 : d ≤ 7) (ih : ∀ x ∈ l, PC Tryd.prog T 112 [.agg (cmdA x), .d (.int .i64 d)] (.d (.int .i64 (cF x d)))) : PC Tryd.prog T 58 [.d (.slc 12 (l.map cmdD)), .d (.int .i64 d)] (.d (.int .i64 (cFL l d))) := by
  refine ⟨Tryd.call58, PCall.enterS Tryd.func58 rfl Tryd.ntmps58 rfl fun hb => ?_⟩
  simp only [go_sem, Tryd.results58]
  refine AWp.rs fun K1 hK1 => ?_
  try simp only [go_sem]
  (repeat (with_reducible refine And.intro ?_ ?_; (first | omega | (intro _; omega) | decide | (exact nfB) | (intro hg; refine ⟨hg, ?_⟩; omega) | (simp; done) | (simp; omega))))
  refine hK1 _ _ ?_
  try clear hK1 K1
  refine AWp.seq fun K2 hK2 => ?_
  refine AWp.rs fun K3 hK3 => ?_
  try simp only [go_sem]
  (repeat (with_reducible refine And.intro ?_ ?_; (first | omega | (intro _; omega) | decide | (exact nfB) | (intro hg; refine ⟨hg, ?_⟩; omega) | (simp; done) | (simp; omega))))
  refine hK3 _ _ ?_
  try clear hK3 K3
  refine AWp.block ?_
  refine AWp.mask [true, true, false, true] rfl ?_
  simp only [go_sem]
  refine AWp.loopS [true, true] [false, false, true] (fun n lc hc => ∃ (k : Nat), n = l.length - k ∧ EqS lc [(5, .d (.int .i64 k))] ∧ EqS hc (⟨[], []⟩) ∧ (k ≤ l.length) ∧ (cFL l d = cFL (l.drop k) d)) rfl ?_ ?_
  · refine ⟨_, 0, rfl, ?_, ?_, ?_, ?_⟩
    · (try simp only [go_sem]) <;> first | exact ⟨rfl⟩ | (constructor; simp; done)
    · (try simp only [go_sem]) <;> first | exact ⟨rfl⟩ | (constructor; simp; done)
    all_goals (first | omega | rfl)
  · rintro _ _ _ ⟨k, rfl, ⟨rfl⟩, ⟨rfl⟩, hk0, htf⟩
    simp only [go_sem]
    refine AWp.seq fun K4 hK4 => ?_
    refine AWp.rs fun K5 hK5 => ?_
    try simp only [go_sem]
    (repeat (with_reducible refine And.intro ?_ ?_; (first | omega | (intro _; omega) | decide | (exact nfB) | (intro hg; refine ⟨hg, ?_⟩; omega) | (simp; done) | (simp; omega))))
    refine hK5 _ _ ?_
    try clear hK5 K5
    refine AWp.cond _ rfl (fun hc0 => ?_) (fun hc0 => ?_)
    · skip
      try simp only [decide_eq_true_eq, decide_eq_false_iff_not, Bool.not_eq_true', Bool.not_eq_false', Bool.and_eq_true, Bool.or_eq_true, Bool.and_eq_false_iff, Bool.or_eq_false_iff, Int.not_lt, Int.not_le, beq_iff_eq, beq_eq_false_iff_ne, ne_eq, Bool.not_eq_true, Bool.not_eq_false] at hc0
      have hlt : k < l.length := by omega
      refine AWp.skip ?_
      refine thenQ_n ?_
      refine hK4 _ _ ?_
      try clear hK4 K4
      refine AWp.mask [true, true, true] rfl ?_
      simp only [go_sem]
      refine AWp.seq fun K6 hK6 => ?_
      refine AWp.block ?_
      refine AWp.rs fun K7 hK7 => ?_
      try simp only [go_sem, map_getD cmdD _ _ _ hlt]
      (repeat (with_reducible refine And.intro ?_ ?_; (first | omega | (intro _; omega) | decide | (exact nfB) | (intro hg; refine ⟨hg, ?_⟩; omega) | (simp; done) | (simp; omega))))
      refine DW.pcr rfl rfl rfl rfl (ih _ (List.getElem_mem hlt)) rfl rfl ?_
      try simp only [go_sem, map_getD cmdD _ _ _ hlt]
      (repeat (with_reducible refine And.intro ?_ ?_; (first | omega | (intro _; omega) | decide | (exact nfB) | (intro hg; refine ⟨hg, ?_⟩; omega) | (simp; done) | (simp; omega))))
      refine hK7 _ _ ?_
      try clear hK7 K7
      refine AWp.mask [true, true, true, true] rfl ?_
      simp only [go_sem]
      refine AWp.rs fun K8 hK8 => ?_
      try simp only [go_sem, map_getD cmdD _ _ _ hlt]
      (repeat (with_reducible refine And.intro ?_ ?_; (first | omega | (intro _; omega) | decide | (exact nfB) | (intro hg; refine ⟨hg, ?_⟩; omega) | (simp; done) | (simp; omega))))
      refine hK8 _ _ ?_
      try clear hK8 K8
      refine AWp.cond _ rfl (fun hc1 => ?_) (fun hc1 => ?_)
      · skip
        try simp only [decide_eq_true_eq, decide_eq_false_iff_not, Bool.not_eq_true', Bool.not_eq_false', Bool.and_eq_true, Bool.or_eq_true, Bool.and_eq_false_iff, Bool.or_eq_false_iff, Int.not_lt, Int.not_le, beq_iff_eq, beq_eq_false_iff_ne, ne_eq, Bool.not_eq_true, Bool.not_eq_false] at hc1
        refine AWp.rs fun K9 hK9 => ?_
        try simp only [go_sem, map_getD cmdD _ _ _ hlt]
        (repeat (with_reducible refine And.intro ?_ ?_; (first | omega | (intro _; omega) | decide | (exact nfB) | (intro hg; refine ⟨hg, ?_⟩; omega) | (simp; done) | (simp; omega))))
        refine hK9 _ _ ?_
        try clear hK9 K9
        refine AWp.mask [false, false, true] rfl ?_
        simp only [go_sem]
        refine AWp.ret ?_
        try simp only [go_sem, map_getD cmdD _ _ _ hlt]
        rw [htf, cFL_drop _ _ _ hlt, if_neg hc1]
      · skip
        try simp only [decide_eq_true_eq, decide_eq_false_iff_not, Bool.not_eq_true', Bool.not_eq_false', Bool.and_eq_true, Bool.or_eq_true, Bool.and_eq_false_iff, Bool.or_eq_false_iff, Int.not_lt, Int.not_le, beq_iff_eq, beq_eq_false_iff_ne, ne_eq, Bool.not_eq_true, Bool.not_eq_false] at hc1
        refine AWp.skip ?_
        refine blkQ_n (thenQ_n ?_)
        refine hK6 _ _ ?_
        try clear hK6 K6
        refine AWp.rk fun K10 hK10 => ?_
        try simp only [go_sem, map_getD cmdD _ _ _ hlt]
        (repeat (with_reducible refine And.intro ?_ ?_; (first | omega | (intro _; omega) | decide | (exact nfB) | (intro hg; refine ⟨hg, ?_⟩; omega) | (simp; done) | (simp; omega))))
        refine hK10 _ _ ?_
        try clear hK10 K10
        refine thenQ_n ?_
        refine EndS.mkr [true, true] [false, false, true] rfl ?_ ?_
        · (try simp only [go_sem, map_getD cmdD _ _ _ hlt]) <;> try rfl
        refine .e ⟨_, ?_, k + 1, rfl, ?_, ?_, ?_, ?_⟩
        · first | omega | (simp; omega) | (grind)
        · (try simp only [go_sem, map_getD cmdD _ _ _ hlt]) <;> first | exact ⟨rfl⟩ | (constructor; simp; done)
        · (try simp only [go_sem, map_getD cmdD _ _ _ hlt]) <;> first | exact ⟨rfl⟩ | (constructor; simp; done)
        · omega
        · rw [htf, cFL_drop _ _ _ hlt, if_pos hc1]
    · skip
      try simp only [decide_eq_true_eq, decide_eq_false_iff_not, Bool.not_eq_true', Bool.not_eq_false', Bool.and_eq_true, Bool.or_eq_true, Bool.and_eq_false_iff, Bool.or_eq_false_iff, Int.not_lt, Int.not_le, beq_iff_eq, beq_eq_false_iff_ne, ne_eq, Bool.not_eq_true, Bool.not_eq_false] at hc0
      refine AWp.exit ?_
      refine thenQ_e (thenQ_e (blkQ_e (thenQ_n ?_)))
      refine hK2 _ _ ?_
      try clear hK2 K2
      refine AWp.mask [] rfl ?_
      simp only [go_sem]
      refine AWp.rs fun K11 hK11 => ?_
      try simp only [go_sem]
      (repeat (with_reducible refine And.intro ?_ ?_; (first | omega | (intro _; omega) | decide | (exact nfB) | (intro hg; refine ⟨hg, ?_⟩; omega) | (simp; done) | (simp; omega))))
      refine hK11 _ _ ?_
      try clear hK11 K11
      refine AWp.ret ?_
      try simp only [go_sem]
      rw [htf, cFL_end _ _ _ (by omega)]
theorem okC_i (c : Cmd) : okC c = (decide (c.test.kind = 0) && bareB c.test false false false false false false && decide ((c.thn.length : Int) = 0) && decide ((c.els.length : Int) = 0) &&
  (if c.kind = 1 ∨ c.kind = 8 ∨ c.kind = 9 then decide (0 < (c.texts.length : Int)) else if inB c.kind 5 7 = true then decide ((c.texts.length : Int) = 1) else decide ((c.texts.length : Int) = 0))) := by
  rw [okC_eq]
  congr 1
  · congr 1
    · congr 1
      rw [decide_eq_decide]; omega
    · rw [decide_eq_decide]; omega
  · split
    · rw [decide_eq_decide]; omega
    · split
      · rw [decide_eq_decide]; omega
      · rw [decide_eq_decide]; omega
theorem okC_iff (c : Cmd) : okC c = true ↔ (c.test.kind = 0 ∧ bareB c.test false false false false false false = true) ∧ c.thn.length = 0 ∧ c.els.length = 0 ∧ ((c.kind = 1 ∨ c.kind = 8 ∨ c.kind = 9) → 0 < c.texts.length) ∧ (¬ (c.kind = 1 ∨ c.kind = 8 ∨ c.kind = 9) → (5 ≤ c.kind ∧ c.kind ≤ 7) → c.texts.length = 1) ∧ (¬ (c.kind = 1 ∨ c.kind = 8 ∨ c.kind = 9) → ¬ (5 ≤ c.kind ∧ c.kind ≤ 7) → c.texts.length = 0) := by
  rw [okC_eq]
  simp only [Bool.and_eq_true, decide_eq_true_eq]
  by_cases h1 : c.kind = 1 ∨ c.kind = 8 ∨ c.kind = 9
  · simp only [if_pos h1, decide_eq_true_eq]; grind
  · by_cases h2 : 5 ≤ c.kind ∧ c.kind ≤ 7
    · simp only [if_neg h1, if_pos (show inB c.kind 5 7 = true by simp [inB]; exact h2), decide_eq_true_eq]; grind
    · simp only [if_neg h1, if_neg (show ¬ inB c.kind 5 7 = true by simp [inB]; omega), decide_eq_true_eq]; grind
theorem if0 {a b : Int} (h : (if a = 0 then b else a) = 0) : a = 0 ∧ b = 0 := by
  by_cases ha : a = 0
  · rw [if_pos ha] at h; exact ⟨ha, h⟩
  · rw [if_neg ha] at h; exact absurd h ha
theorem ifn {a b x : Int} (h : ¬ (if a = 0 then b else a) = 0) : (if a = 0 then (if b = 0 then x else b) else a) = (if a = 0 then b else a) := by
  by_cases ha : a = 0
  · rw [if_pos ha] at h ⊢; rw [if_neg h, if_pos ha]
  · rw [if_neg ha, if_neg ha]
set_option maxRecDepth 4000 in
set_option maxHeartbeats 1000000 in
theorem commandFault_step (T : Tbl) (c : Cmd) (ok : c.Ok) (d : Int) (hd : -9 ≤ d) (hd2 : d ≤ 7) (i1 : ∀ d : Int, -9 ≤ d → d ≤ 7 → PC Tryd.prog T 58 [.d (.slc 12 (thnD c)), .d (.int .i64 d)] (.d (.int .i64 (cFL c.thn d)))) (i2 : ∀ d : Int, -9 ≤ d → d ≤ 7 → PC Tryd.prog T 58 [.d (.slc 12 (elsD c)), .d (.int .i64 d)] (.d (.int .i64 (cFL c.els d)))) (i3 : ∀ x ∈ c.els, ∀ d : Int, -9 ≤ d → d ≤ 7 → PC Tryd.prog T 112 [.agg (cmdA x), .d (.int .i64 d)] (.d (.int .i64 (cF x d)))) : PC Tryd.prog T 112 [.agg (cmdA c), .d (.int .i64 d)] (.d (.int .i64 (cF c d))) := by
  refine ⟨Tryd.call112, PCall.enterS Tryd.func112 rfl Tryd.ntmps112 rfl fun hb => ?_⟩
  obtain ⟨s1, s2, s3, s4, s5, s6⟩ := ok.inv
  simp only [go_sem, Tryd.results112]
  refine AWp.rs fun K1 hK1 => ?_
  try simp only [go_sem]
  (repeat (with_reducible refine And.intro ?_ ?_; (first | omega | (intro _; omega) | decide | (exact nfB) | (intro hg; refine ⟨hg, ?_⟩; omega) | (simp; done) | (simp; omega))))
  intro b1 fb1
  try simp only [freshL] at fb1
  try simp only [go_sem, fb1]
  (repeat (with_reducible refine And.intro ?_ ?_; (first | omega | (intro _; omega) | decide | (exact nfB) | (intro hg; refine ⟨hg, ?_⟩; omega) | (simp; done) | (simp; omega))))
  refine hK1 _ _ ?_
  try clear hK1 K1
  refine AWp.seq fun K2 hK2 => ?_
  refine AWp.rs fun K3 hK3 => ?_
  try simp only [go_sem, fb1]
  (repeat (with_reducible refine And.intro ?_ ?_; (first | omega | (intro _; omega) | decide | (exact nfB) | (intro hg; refine ⟨hg, ?_⟩; omega) | (simp; done) | (simp; omega))))
  refine DW.pcr rfl rfl rfl rfl (in_c T _ _ _) rfl rfl ?_
  try simp only [go_sem, fb1]
  (repeat (with_reducible refine And.intro ?_ ?_; (first | omega | (intro _; omega) | decide | (exact nfB) | (intro hg; refine ⟨hg, ?_⟩; omega) | (simp; done) | (simp; omega))))
  refine hK3 _ _ ?_
  try clear hK3 K3
  refine AWp.mask [false, true, true, false, false, false, false, true] rfl ?_
  simp only [go_sem]
  refine AWp.cond _ rfl (fun hc0 => ?_) (fun hc0 => ?_)
  · skip
    try simp only [decide_eq_true_eq, decide_eq_false_iff_not, Bool.not_eq_true', Bool.not_eq_false', Bool.and_eq_true, Bool.or_eq_true, Bool.and_eq_false_iff, Bool.or_eq_false_iff, Int.not_lt, Int.not_le, beq_iff_eq, beq_eq_false_iff_ne, ne_eq, Bool.not_eq_true, Bool.not_eq_false] at hc0
    refine AWp.rs fun K4 hK4 => ?_
    try simp only [go_sem, fb1]
    (repeat (with_reducible refine And.intro ?_ ?_; (first | omega | (intro _; omega) | decide | (exact nfB) | (intro hg; refine ⟨hg, ?_⟩; omega) | (simp; done) | (simp; omega))))
    refine hK4 _ _ ?_
    try clear hK4 K4
    refine AWp.ret ?_
    try simp only [go_sem, fb1]
    rw [cF_kind c d hc0]
  · skip
    try simp only [decide_eq_true_eq, decide_eq_false_iff_not, Bool.not_eq_true', Bool.not_eq_false', Bool.and_eq_true, Bool.or_eq_true, Bool.and_eq_false_iff, Bool.or_eq_false_iff, Int.not_lt, Int.not_le, beq_iff_eq, beq_eq_false_iff_ne, ne_eq, Bool.not_eq_true, Bool.not_eq_false] at hc0
    have hk : inB c.kind 1 10 = true := hc0
    refine AWp.skip ?_
    refine thenQ_n ?_
    refine hK2 _ _ ?_
    try clear hK2 K2
    refine AWp.seq fun K5 hK5 => ?_
    refine AWp.rs fun K6 hK6 => ?_
    try simp only [go_sem, fb1]
    (repeat (with_reducible refine And.intro ?_ ?_; (first | omega | (intro _; omega) | decide | (exact nfB) | (intro hg; refine ⟨hg, ?_⟩; omega) | (simp; done) | (simp; omega))))
    refine hK6 _ _ ?_
    try clear hK6 K6
    refine AWp.cond _ rfl (fun hc1 => ?_) (fun hc1 => ?_)
    · skip
      try simp only [decide_eq_true_eq, decide_eq_false_iff_not, Bool.not_eq_true', Bool.not_eq_false', Bool.and_eq_true, Bool.or_eq_true, Bool.and_eq_false_iff, Bool.or_eq_false_iff, Int.not_lt, Int.not_le, beq_iff_eq, beq_eq_false_iff_ne, ne_eq, Bool.not_eq_true, Bool.not_eq_false] at hc1
      refine AWp.rs fun K7 hK7 => ?_
      try simp only [go_sem, fb1]
      (repeat (with_reducible refine And.intro ?_ ?_; (first | omega | (intro _; omega) | decide | (exact nfB) | (intro hg; refine ⟨hg, ?_⟩; omega) | (simp; done) | (simp; omega))))
      refine hK7 _ _ ?_
      try clear hK7 K7
      refine AWp.mask [false, false, true] rfl ?_
      simp only [go_sem]
      refine AWp.ret ?_
      try simp only [go_sem, fb1]
      rw [cF_deep c d hk (by omega)]
    · skip
      try simp only [decide_eq_true_eq, decide_eq_false_iff_not, Bool.not_eq_true', Bool.not_eq_false', Bool.and_eq_true, Bool.or_eq_true, Bool.and_eq_false_iff, Bool.or_eq_false_iff, Int.not_lt, Int.not_le, beq_iff_eq, beq_eq_false_iff_ne, ne_eq, Bool.not_eq_true, Bool.not_eq_false] at hc1
      have hd6 : d ≤ 6 := by omega
      refine AWp.skip ?_
      refine thenQ_n ?_
      refine hK5 _ _ ?_
      try clear hK5 K5
      refine AWp.seq fun K8 hK8 => ?_
      refine AWp.rs fun K9 hK9 => ?_
      try simp only [go_sem, fb1]
      (repeat (with_reducible refine And.intro ?_ ?_; (first | omega | (intro _; omega) | decide | (exact nfB) | (intro hg; refine ⟨hg, ?_⟩; omega) | (simp; done) | (simp; omega))))
      refine hK9 _ _ ?_
      try clear hK9 K9
      refine AWp.mask [true, true, false, false, false, false, false, true] rfl ?_
      simp only [go_sem]
      refine AWp.cond _ rfl (fun hc2 => ?_) (fun hc2 => ?_)
      · skip
        try simp only [decide_eq_true_eq, decide_eq_false_iff_not, Bool.not_eq_true', Bool.not_eq_false', Bool.and_eq_true, Bool.or_eq_true, Bool.and_eq_false_iff, Bool.or_eq_false_iff, Int.not_lt, Int.not_le, beq_iff_eq, beq_eq_false_iff_ne, ne_eq, Bool.not_eq_true, Bool.not_eq_false] at hc2
        refine AWp.rs fun K10 hK10 => ?_
        try simp only [go_sem, fb1]
        (repeat (with_reducible refine And.intro ?_ ?_; (first | omega | (intro _; omega) | decide | (exact nfB) | (intro hg; refine ⟨hg, ?_⟩; omega) | (simp; done) | (simp; omega))))
        refine DW.pcgr rfl rfl rfl rfl rfl (fun hg => testBare_c T _ _ _ _ _ _ _) (fun hg => by (try simp only [go_sem, fb1]) <;> first | exact hg | (simpa using hg) | grind) rfl rfl ?_
        try simp only [go_sem, fb1]
        (repeat (with_reducible refine And.intro ?_ ?_; (first | omega | (intro _; omega) | decide | (exact nfB) | (intro hg; refine ⟨hg, ?_⟩; omega) | (simp; done) | (simp; omega))))
        refine hK10 _ _ ?_
        try clear hK10 K10
        refine AWp.mask [false, true, true] rfl ?_
        simp only [go_sem]
        refine AWp.rs fun K11 hK11 => ?_
        try simp only [go_sem, fb1]
        (repeat (with_reducible refine And.intro ?_ ?_; (first | omega | (intro _; omega) | decide | (exact nfB) | (intro hg; refine ⟨hg, ?_⟩; omega) | (simp; done) | (simp; omega))))
        refine hK11 _ _ ?_
        try clear hK11 K11
        refine AWp.mask [true, true, true] rfl ?_
        simp only [go_sem]
        refine AWp.joinS [] (fun lc hc => EqS lc [(5, .d (.bool (okC c)))] ∧ EqS hc (⟨[(b1, ⟨12, 1, [cmdA c]⟩)], []⟩)) ?_ ?_
        · skip
          refine AWp.rs fun K12 hK12 => ?_
          try simp only [go_sem, fb1]
          (repeat (with_reducible refine And.intro ?_ ?_; (first | omega | (intro _; omega) | decide | (exact nfB) | (intro hg; refine ⟨hg, ?_⟩; omega) | (simp; done) | (simp; omega))))
          refine hK12 _ _ ?_
          try clear hK12 K12
          refine AWp.mask [true, true, true, false, false, false, false, false, false, false, false, false, false, false, false, true] rfl ?_
          simp only [go_sem]
          refine AWp.cond _ rfl (fun hc3 => ?_) (fun hc3 => ?_)
          · skip
            try simp only [decide_eq_true_eq, decide_eq_false_iff_not, Bool.not_eq_true', Bool.not_eq_false', Bool.and_eq_true, Bool.or_eq_true, Bool.and_eq_false_iff, Bool.or_eq_false_iff, Int.not_lt, Int.not_le, beq_iff_eq, beq_eq_false_iff_ne, ne_eq, Bool.not_eq_true, Bool.not_eq_false] at hc3
            refine AWp.rk fun K13 hK13 => ?_
            try simp only [go_sem, fb1]
            (repeat (with_reducible refine And.intro ?_ ?_; (first | omega | (intro _; omega) | decide | (exact nfB) | (intro hg; refine ⟨hg, ?_⟩; omega) | (simp; done) | (simp; omega))))
            refine hK13 _ _ ?_
            try clear hK13 K13
            refine thenQ_n ?_
            refine EndS.mkr [] [false, true] rfl ?_ ?_
            · (try simp only [go_sem, fb1]) <;> try rfl
            refine .e ⟨?_, ?_⟩
            · (try simp only [go_sem, fb1]) <;> first | exact ⟨rfl⟩ | (constructor; first | (rw [okC_i, if_pos (by omega)]; done) | (rw [okC_i, if_neg (by omega), if_pos hc4]; done) | (rw [okC_i, if_neg (by omega), if_neg (by rw [hc4]; simp)]; done))
            · (try simp only [go_sem, fb1]) <;> first | exact ⟨rfl⟩ | (constructor; grind)
          · skip
            try simp only [decide_eq_true_eq, decide_eq_false_iff_not, Bool.not_eq_true', Bool.not_eq_false', Bool.and_eq_true, Bool.or_eq_true, Bool.and_eq_false_iff, Bool.or_eq_false_iff, Int.not_lt, Int.not_le, beq_iff_eq, beq_eq_false_iff_ne, ne_eq, Bool.not_eq_true, Bool.not_eq_false] at hc3
            refine AWp.rs fun K14 hK14 => ?_
            try simp only [go_sem, fb1]
            (repeat (with_reducible refine And.intro ?_ ?_; (first | omega | (intro _; omega) | decide | (exact nfB) | (intro hg; refine ⟨hg, ?_⟩; omega) | (simp; done) | (simp; omega))))
            refine DW.pcr rfl rfl rfl rfl (in_c T _ _ _) rfl rfl ?_
            try simp only [go_sem, fb1]
            (repeat (with_reducible refine And.intro ?_ ?_; (first | omega | (intro _; omega) | decide | (exact nfB) | (intro hg; refine ⟨hg, ?_⟩; omega) | (simp; done) | (simp; omega))))
            refine hK14 _ _ ?_
            try clear hK14 K14
            refine AWp.mask [false, true, true, false, false, false, true] rfl ?_
            simp only [go_sem]
            refine AWp.cond _ rfl (fun hc4 => ?_) (fun hc4 => ?_)
            · skip
              try simp only [decide_eq_true_eq, decide_eq_false_iff_not, Bool.not_eq_true', Bool.not_eq_false', Bool.and_eq_true, Bool.or_eq_true, Bool.and_eq_false_iff, Bool.or_eq_false_iff, Int.not_lt, Int.not_le, beq_iff_eq, beq_eq_false_iff_ne, ne_eq, Bool.not_eq_true, Bool.not_eq_false] at hc4
              refine AWp.rk fun K15 hK15 => ?_
              try simp only [go_sem, fb1]
              (repeat (with_reducible refine And.intro ?_ ?_; (first | omega | (intro _; omega) | decide | (exact nfB) | (intro hg; refine ⟨hg, ?_⟩; omega) | (simp; done) | (simp; omega))))
              refine hK15 _ _ ?_
              try clear hK15 K15
              refine thenQ_n ?_
              refine EndS.mkr [] [true] rfl ?_ ?_
              · (try simp only [go_sem, fb1]) <;> try rfl
              refine .e ⟨?_, ?_⟩
              · (try simp only [go_sem, fb1]) <;> first | exact ⟨rfl⟩ | (constructor; first | (rw [okC_i, if_pos (by omega)]; done) | (rw [okC_i, if_neg (by omega), if_pos hc4]; done) | (rw [okC_i, if_neg (by omega), if_neg (by rw [hc4]; simp)]; done))
              · (try simp only [go_sem, fb1]) <;> first | exact ⟨rfl⟩ | (constructor; grind)
            · skip
              try simp only [decide_eq_true_eq, decide_eq_false_iff_not, Bool.not_eq_true', Bool.not_eq_false', Bool.and_eq_true, Bool.or_eq_true, Bool.and_eq_false_iff, Bool.or_eq_false_iff, Int.not_lt, Int.not_le, beq_iff_eq, beq_eq_false_iff_ne, ne_eq, Bool.not_eq_true, Bool.not_eq_false] at hc4
              refine AWp.rk fun K16 hK16 => ?_
              try simp only [go_sem, fb1]
              (repeat (with_reducible refine And.intro ?_ ?_; (first | omega | (intro _; omega) | decide | (exact nfB) | (intro hg; refine ⟨hg, ?_⟩; omega) | (simp; done) | (simp; omega))))
              refine hK16 _ _ ?_
              try clear hK16 K16
              refine thenQ_n ?_
              refine EndS.mkr [] [true] rfl ?_ ?_
              · (try simp only [go_sem, fb1]) <;> try rfl
              refine .e ⟨?_, ?_⟩
              · (try simp only [go_sem, fb1]) <;> first | exact ⟨rfl⟩ | (constructor; first | (rw [okC_i, if_pos (by omega)]; done) | (rw [okC_i, if_neg (by omega), if_pos hc4]; done) | (rw [okC_i, if_neg (by omega), if_neg (by rw [hc4]; simp)]; done))
              · (try simp only [go_sem, fb1]) <;> first | exact ⟨rfl⟩ | (constructor; grind)
        · rintro _ _ ⟨⟨rfl⟩, ⟨rfl⟩⟩
          simp only [go_sem]
          refine AWp.seq fun K17 hK17 => ?_
          refine AWp.rs fun K18 hK18 => ?_
          try simp only [go_sem, fb1]
          (repeat (with_reducible refine And.intro ?_ ?_; (first | omega | (intro _; omega) | decide | (exact nfB) | (intro hg; refine ⟨hg, ?_⟩; omega) | (simp; done) | (simp; omega))))
          refine hK18 _ _ ?_
          try clear hK18 K18
          refine AWp.cond _ rfl (fun hc5 => ?_) (fun hc5 => ?_)
          · skip
            try simp only [decide_eq_true_eq, decide_eq_false_iff_not, Bool.not_eq_true', Bool.not_eq_false', Bool.and_eq_true, Bool.or_eq_true, Bool.and_eq_false_iff, Bool.or_eq_false_iff, Int.not_lt, Int.not_le, beq_iff_eq, beq_eq_false_iff_ne, ne_eq, Bool.not_eq_true, Bool.not_eq_false] at hc5
            refine AWp.rs fun K19 hK19 => ?_
            try simp only [go_sem, fb1]
            (repeat (with_reducible refine And.intro ?_ ?_; (first | omega | (intro _; omega) | decide | (exact nfB) | (intro hg; refine ⟨hg, ?_⟩; omega) | (simp; done) | (simp; omega))))
            refine hK19 _ _ ?_
            try clear hK19 K19
            refine AWp.ret ?_
            try simp only [go_sem, fb1]
            rw [cF_flat c d hk hd6 hc2, if_neg (by rw [hc5]; simp)]
          · skip
            try simp only [decide_eq_true_eq, decide_eq_false_iff_not, Bool.not_eq_true', Bool.not_eq_false', Bool.and_eq_true, Bool.or_eq_true, Bool.and_eq_false_iff, Bool.or_eq_false_iff, Int.not_lt, Int.not_le, beq_iff_eq, beq_eq_false_iff_ne, ne_eq, Bool.not_eq_true, Bool.not_eq_false] at hc5
            refine AWp.skip ?_
            refine thenQ_n ?_
            refine hK17 _ _ ?_
            try clear hK17 K17
            refine AWp.rs fun K20 hK20 => ?_
            try simp only [go_sem, fb1]
            (repeat (with_reducible refine And.intro ?_ ?_; (first | omega | (intro _; omega) | decide | (exact nfB) | (intro hg; refine ⟨hg, ?_⟩; omega) | (simp; done) | (simp; omega))))
            refine hK20 _ _ ?_
            try clear hK20 K20
            refine AWp.ret ?_
            try simp only [go_sem, fb1]
            rw [cF_flat c d hk hd6 hc2, if_pos hc5]
      · skip
        try simp only [decide_eq_true_eq, decide_eq_false_iff_not, Bool.not_eq_true', Bool.not_eq_false', Bool.and_eq_true, Bool.or_eq_true, Bool.and_eq_false_iff, Bool.or_eq_false_iff, Int.not_lt, Int.not_le, beq_iff_eq, beq_eq_false_iff_ne, ne_eq, Bool.not_eq_true, Bool.not_eq_false] at hc2
        refine AWp.skip ?_
        refine thenQ_n ?_
        refine hK8 _ _ ?_
        try clear hK8 K8
        refine AWp.seq fun K21 hK21 => ?_
        refine AWp.rs fun K22 hK22 => ?_
        try simp only [go_sem, fb1]
        (repeat (with_reducible refine And.intro ?_ ?_; (first | omega | (intro _; omega) | decide | (exact nfB) | (intro hg; refine ⟨hg, ?_⟩; omega) | (simp; done) | (simp; omega))))
        refine hK22 _ _ ?_
        try clear hK22 K22
        refine AWp.mask [true, true, false, false, false, false, true] rfl ?_
        simp only [go_sem]
        refine AWp.cond _ rfl (fun hc6 => ?_) (fun hc6 => ?_)
        · skip
          try simp only [decide_eq_true_eq, decide_eq_false_iff_not, Bool.not_eq_true', Bool.not_eq_false', Bool.and_eq_true, Bool.or_eq_true, Bool.and_eq_false_iff, Bool.or_eq_false_iff, Int.not_lt, Int.not_le, beq_iff_eq, beq_eq_false_iff_ne, ne_eq, Bool.not_eq_true, Bool.not_eq_false] at hc6
          refine AWp.rs fun K23 hK23 => ?_
          try simp only [go_sem, fb1]
          (repeat (with_reducible refine And.intro ?_ ?_; (first | omega | (intro _; omega) | decide | (exact nfB) | (intro hg; refine ⟨hg, ?_⟩; omega) | (simp; done) | (simp; omega))))
          refine hK23 _ _ ?_
          try clear hK23 K23
          refine AWp.ret ?_
          try simp only [go_sem, fb1]
          rw [cF_if c d hd6 hc2, if_pos (by omega)]
        · skip
          try simp only [decide_eq_true_eq, decide_eq_false_iff_not, Bool.not_eq_true', Bool.not_eq_false', Bool.and_eq_true, Bool.or_eq_true, Bool.and_eq_false_iff, Bool.or_eq_false_iff, Int.not_lt, Int.not_le, beq_iff_eq, beq_eq_false_iff_ne, ne_eq, Bool.not_eq_true, Bool.not_eq_false] at hc6
          have h1 : cF c d = if tF c.test 1 = 0 then (if cFL c.thn (d + 1) = 0 then cFE c.els d else cFL c.thn (d + 1)) else tF c.test 1 := by rw [cF_if c d hd6 hc2, if_neg (by omega)]
          refine AWp.skip ?_
          refine thenQ_n ?_
          refine hK21 _ _ ?_
          try clear hK21 K21
          refine AWp.rs fun K24 hK24 => ?_
          try simp only [go_sem, fb1]
          (repeat (with_reducible refine And.intro ?_ ?_; (first | omega | (intro _; omega) | decide | (exact nfB) | (intro hg; refine ⟨hg, ?_⟩; omega) | (simp; done) | (simp; omega))))
          refine DW.pcr rfl rfl rfl rfl (testFault_c T _ s2 _ (by omega) (by omega)) rfl rfl ?_
          try simp only [go_sem, fb1]
          (repeat (with_reducible refine And.intro ?_ ?_; (first | omega | (intro _; omega) | decide | (exact nfB) | (intro hg; refine ⟨hg, ?_⟩; omega) | (simp; done) | (simp; omega))))
          refine hK24 _ _ ?_
          try clear hK24 K24
          refine AWp.mask [true, true, true] rfl ?_
          simp only [go_sem]
          refine AWp.joinS [true, true] (fun lc hc => EqS lc [(7, .d (.int .i64 (if tF c.test 1 = 0 then cFL c.thn (d + 1) else tF c.test 1)))] ∧ EqS hc (⟨[(b1, ⟨12, 1, [cmdA c]⟩)], []⟩)) ?_ ?_
          · skip
            refine AWp.rs fun K25 hK25 => ?_
            try simp only [go_sem, fb1]
            (repeat (with_reducible refine And.intro ?_ ?_; (first | omega | (intro _; omega) | decide | (exact nfB) | (intro hg; refine ⟨hg, ?_⟩; omega) | (simp; done) | (simp; omega))))
            refine hK25 _ _ ?_
            try clear hK25 K25
            refine AWp.cond _ rfl (fun hc7 => ?_) (fun hc7 => ?_)
            · skip
              try simp only [decide_eq_true_eq, decide_eq_false_iff_not, Bool.not_eq_true', Bool.not_eq_false', Bool.and_eq_true, Bool.or_eq_true, Bool.and_eq_false_iff, Bool.or_eq_false_iff, Int.not_lt, Int.not_le, beq_iff_eq, beq_eq_false_iff_ne, ne_eq, Bool.not_eq_true, Bool.not_eq_false] at hc7
              refine AWp.rk fun K26 hK26 => ?_
              try simp only [go_sem, fb1]
              (repeat (with_reducible refine And.intro ?_ ?_; (first | omega | (intro _; omega) | decide | (exact nfB) | (intro hg; refine ⟨hg, ?_⟩; omega) | (simp; done) | (simp; omega))))
              refine DW.pcr rfl rfl rfl rfl (i1 _ (by omega) (by omega)) rfl rfl ?_
              try simp only [go_sem, fb1]
              (repeat (with_reducible refine And.intro ?_ ?_; (first | omega | (intro _; omega) | decide | (exact nfB) | (intro hg; refine ⟨hg, ?_⟩; omega) | (simp; done) | (simp; omega))))
              refine hK26 _ _ ?_
              try clear hK26 K26
              refine thenQ_n ?_
              refine EndS.mkr [true, true] [false, false, true] rfl ?_ ?_
              · (try simp only [go_sem, fb1]) <;> try rfl
              refine .e ⟨?_, ?_⟩
              · (try simp only [go_sem, fb1]) <;> first | exact ⟨rfl⟩ | (constructor; simp [hc0, hc1, hc2, hc6, hc7])
              · (try simp only [go_sem, fb1]) <;> first | exact ⟨rfl⟩ | (constructor; grind)
            · skip
              try simp only [decide_eq_true_eq, decide_eq_false_iff_not, Bool.not_eq_true', Bool.not_eq_false', Bool.and_eq_true, Bool.or_eq_true, Bool.and_eq_false_iff, Bool.or_eq_false_iff, Int.not_lt, Int.not_le, beq_iff_eq, beq_eq_false_iff_ne, ne_eq, Bool.not_eq_true, Bool.not_eq_false] at hc7
              refine AWp.skip ?_
              refine thenQ_n ?_
              refine EndS.mkr [true, true] [false, false, true] rfl ?_ ?_
              · (try simp only [go_sem, fb1]) <;> try rfl
              refine .e ⟨?_, ?_⟩
              · (try simp only [go_sem, fb1]) <;> first | exact ⟨rfl⟩ | (constructor; simp [hc0, hc1, hc2, hc6, hc7])
              · (try simp only [go_sem, fb1]) <;> first | exact ⟨rfl⟩ | (constructor; grind)
          · rintro _ _ ⟨⟨rfl⟩, ⟨rfl⟩⟩
            simp only [go_sem]
            refine AWp.seq fun K27 hK27 => ?_
            refine AWp.rs fun K28 hK28 => ?_
            try simp only [go_sem, fb1]
            (repeat (with_reducible refine And.intro ?_ ?_; (first | omega | (intro _; omega) | decide | (exact nfB) | (intro hg; refine ⟨hg, ?_⟩; omega) | (simp; done) | (simp; omega))))
            refine DW.pcgr rfl rfl rfl rfl rfl (fun hg => elsif_c T _) (fun hg => by (try simp only [go_sem, fb1]) <;> first | exact hg | (simpa using hg) | grind) rfl rfl ?_
            try simp only [go_sem, fb1]
            (repeat (with_reducible refine And.intro ?_ ?_; (first | omega | (intro _; omega) | decide | (exact nfB) | (intro hg; refine ⟨hg, ?_⟩; omega) | (simp; done) | (simp; omega))))
            refine hK28 _ _ ?_
            try clear hK28 K28
            refine AWp.mask [true, true, true, false, false, false, false, false, true] rfl ?_
            simp only [go_sem]
            refine AWp.cond _ rfl (fun hc8 => ?_) (fun hc8 => ?_)
            · skip
              try simp only [decide_eq_true_eq, decide_eq_false_iff_not, Bool.not_eq_true', Bool.not_eq_false', Bool.and_eq_true, Bool.or_eq_true, Bool.and_eq_false_iff, Bool.or_eq_false_iff, Int.not_lt, Int.not_le, beq_iff_eq, beq_eq_false_iff_ne, ne_eq, Bool.not_eq_true, Bool.not_eq_false] at hc8
              obtain ⟨hz, he⟩ := hc8
              have h0 : 0 < c.els.length := by rcases Nat.eq_zero_or_pos c.els.length with h | h; exact absurd he (by rw [elsifC_1 c (by omega)]; simp); exact h
              refine AWp.rk fun K29 hK29 => ?_
              try simp only [go_sem, fb1, elsD_get c _ _ h0]
              (repeat (with_reducible refine And.intro ?_ ?_; (first | omega | (intro _; omega) | decide | (exact nfB) | (intro hg; refine ⟨hg, ?_⟩; omega) | (simp; done) | (simp; omega))))
              refine DW.pcr rfl rfl rfl rfl (i3 _ (List.getElem_mem h0) _ (by omega) (by omega)) rfl rfl ?_
              try simp only [go_sem, fb1, elsD_get c _ _ h0]
              (repeat (with_reducible refine And.intro ?_ ?_; (first | omega | (intro _; omega) | decide | (exact nfB) | (intro hg; refine ⟨hg, ?_⟩; omega) | (simp; done) | (simp; omega))))
              refine hK29 _ _ ?_
              try clear hK29 K29
              refine thenQ_n ?_
              refine hK27 _ _ ?_
              try clear hK27 K27
              refine AWp.mask [false, false, true] rfl ?_
              simp only [go_sem]
              refine AWp.rs fun K30 hK30 => ?_
              try simp only [go_sem, fb1, elsD_get c _ _ h0]
              (repeat (with_reducible refine And.intro ?_ ?_; (first | omega | (intro _; omega) | decide | (exact nfB) | (intro hg; refine ⟨hg, ?_⟩; omega) | (simp; done) | (simp; omega))))
              refine hK30 _ _ ?_
              try clear hK30 K30
              refine AWp.ret ?_
              try simp only [go_sem, fb1, elsD_get c _ _ h0]
              first | (have hq := if0 hz; rw [h1, if_pos hq.1, if_pos hq.2, cFE_t c d he h0]; done) | (have hq := if0 hc9; rw [h1, if_pos hq.1, if_pos hq.2, cFE_f c d (by rcases hc8 with h | h; exact absurd hc9 h; exact h)]; done) | (rw [h1, ifn hc9])
            · skip
              try simp only [decide_eq_true_eq, decide_eq_false_iff_not, Bool.not_eq_true', Bool.not_eq_false', Bool.and_eq_true, Bool.or_eq_true, Bool.and_eq_false_iff, Bool.or_eq_false_iff, Int.not_lt, Int.not_le, beq_iff_eq, beq_eq_false_iff_ne, ne_eq, Bool.not_eq_true, Bool.not_eq_false] at hc8
              refine AWp.rs fun K31 hK31 => ?_
              try simp only [go_sem, fb1]
              (repeat (with_reducible refine And.intro ?_ ?_; (first | omega | (intro _; omega) | decide | (exact nfB) | (intro hg; refine ⟨hg, ?_⟩; omega) | (simp; done) | (simp; omega))))
              refine hK31 _ _ ?_
              try clear hK31 K31
              refine AWp.cond _ rfl (fun hc9 => ?_) (fun hc9 => ?_)
              · skip
                try simp only [decide_eq_true_eq, decide_eq_false_iff_not, Bool.not_eq_true', Bool.not_eq_false', Bool.and_eq_true, Bool.or_eq_true, Bool.and_eq_false_iff, Bool.or_eq_false_iff, Int.not_lt, Int.not_le, beq_iff_eq, beq_eq_false_iff_ne, ne_eq, Bool.not_eq_true, Bool.not_eq_false] at hc9
                refine AWp.rk fun K32 hK32 => ?_
                try simp only [go_sem, fb1]
                (repeat (with_reducible refine And.intro ?_ ?_; (first | omega | (intro _; omega) | decide | (exact nfB) | (intro hg; refine ⟨hg, ?_⟩; omega) | (simp; done) | (simp; omega))))
                refine DW.pcr rfl rfl rfl rfl (i2 _ (by omega) (by omega)) rfl rfl ?_
                try simp only [go_sem, fb1]
                (repeat (with_reducible refine And.intro ?_ ?_; (first | omega | (intro _; omega) | decide | (exact nfB) | (intro hg; refine ⟨hg, ?_⟩; omega) | (simp; done) | (simp; omega))))
                refine hK32 _ _ ?_
                try clear hK32 K32
                refine thenQ_n ?_
                refine hK27 _ _ ?_
                try clear hK27 K27
                refine AWp.mask [false, false, true] rfl ?_
                simp only [go_sem]
                refine AWp.rs fun K33 hK33 => ?_
                try simp only [go_sem, fb1]
                (repeat (with_reducible refine And.intro ?_ ?_; (first | omega | (intro _; omega) | decide | (exact nfB) | (intro hg; refine ⟨hg, ?_⟩; omega) | (simp; done) | (simp; omega))))
                refine hK33 _ _ ?_
                try clear hK33 K33
                refine AWp.ret ?_
                try simp only [go_sem, fb1]
                first | (have hq := if0 hz; rw [h1, if_pos hq.1, if_pos hq.2, cFE_t c d he h0]; done) | (have hq := if0 hc9; rw [h1, if_pos hq.1, if_pos hq.2, cFE_f c d (by rcases hc8 with h | h; exact absurd hc9 h; exact h)]; done) | (rw [h1, ifn hc9])
              · skip
                try simp only [decide_eq_true_eq, decide_eq_false_iff_not, Bool.not_eq_true', Bool.not_eq_false', Bool.and_eq_true, Bool.or_eq_true, Bool.and_eq_false_iff, Bool.or_eq_false_iff, Int.not_lt, Int.not_le, beq_iff_eq, beq_eq_false_iff_ne, ne_eq, Bool.not_eq_true, Bool.not_eq_false] at hc9
                refine AWp.skip ?_
                refine thenQ_n ?_
                refine hK27 _ _ ?_
                try clear hK27 K27
                refine AWp.mask [false, false, true] rfl ?_
                simp only [go_sem]
                refine AWp.rs fun K34 hK34 => ?_
                try simp only [go_sem, fb1]
                (repeat (with_reducible refine And.intro ?_ ?_; (first | omega | (intro _; omega) | decide | (exact nfB) | (intro hg; refine ⟨hg, ?_⟩; omega) | (simp; done) | (simp; omega))))
                refine hK34 _ _ ?_
                try clear hK34 K34
                refine AWp.ret ?_
                try simp only [go_sem, fb1]
                first | (have hq := if0 hz; rw [h1, if_pos hq.1, if_pos hq.2, cFE_t c d he h0]; done) | (have hq := if0 hc9; rw [h1, if_pos hq.1, if_pos hq.2, cFE_f c d (by rcases hc8 with h | h; exact absurd hc9 h; exact h)]; done) | (rw [h1, ifn hc9])
set_option maxRecDepth 4000 in
set_option maxHeartbeats 1000000 in
theorem check_0 (T : Tbl) (c : Cmd) (ok : c.Ok) (h0 : c.els.length = 0) (d : Int) (hd : -9 ≤ d) (hd2 : d ≤ 7) (i1 : ∀ d : Int, -9 ≤ d → d ≤ 7 → PC Tryd.prog T 56 [.d (.slc 12 (thnD c)), .d (.int .i64 d)] (.d (.int .i64 (cFL c.thn d)))) (i2 : ∀ d : Int, -9 ≤ d → d ≤ 7 → PC Tryd.prog T 56 [.d (.slc 12 (elsD c)), .d (.int .i64 d)] (.d (.int .i64 (cFL c.els d)))) (i3 : ∀ x ∈ c.els, ∀ d : Int, -9 ≤ d → d ≤ 7 → PC Tryd.prog T 108 [.agg (cmdA x), .d (.int .i64 d)] (.d (.int .i64 (cF x d)))) : PC Tryd.prog T 108 [.agg (cmdA c), .d (.int .i64 d)] (.d (.int .i64 (cF c d))) := by
  refine ⟨Tryd.call108, PCall.enterS Tryd.func108 rfl Tryd.ntmps108 rfl fun hb => ?_⟩
  obtain ⟨s1, s2, s3, s4, s5, s6⟩ := ok.inv
  have hE : elsD c = [] := by rw [elsD_eq, List.map_eq_nil_iff]; exact List.eq_nil_of_length_eq_zero h0
  have hi0 : ((c.els.length : Int) = 1) = False := by simp only [eq_iff_iff, iff_false]; omega
  have i2e : ∀ d : Int, -9 ≤ d → d ≤ 7 → PC Tryd.prog T 56 [.d (.slc 12 []), .d (.int .i64 d)] (.d (.int .i64 (cFL c.els d))) := fun d a b => by have := i2 d a b; rwa [hE] at this
  simp only [go_sem, Tryd.results108]
  refine AWp.rs fun K1 hK1 => ?_
  try simp only [go_sem, hE, List.getD_nil, List.take_nil, List.map_nil, List.headD_nil, hi0, decide_false]
  (repeat (with_reducible refine And.intro ?_ ?_; (first | omega | (intro _; omega) | decide | (exact nfB) | (intro hg; refine ⟨hg, ?_⟩; omega) | (simp; done) | (simp; omega))))
  intro b1 fb1
  try simp only [freshL] at fb1
  try simp only [go_sem, hE, List.getD_nil, List.take_nil, List.map_nil, List.headD_nil, hi0, decide_false, fb1]
  (repeat (with_reducible refine And.intro ?_ ?_; (first | omega | (intro _; omega) | decide | (exact nfB) | (intro hg; refine ⟨hg, ?_⟩; omega) | (simp; done) | (simp; omega))))
  refine hK1 _ _ ?_
  try clear hK1 K1
  refine AWp.seq fun K2 hK2 => ?_
  refine AWp.rs fun K3 hK3 => ?_
  try simp only [go_sem, hE, List.getD_nil, List.take_nil, List.map_nil, List.headD_nil, hi0, decide_false, fb1]
  (repeat (with_reducible refine And.intro ?_ ?_; (first | omega | (intro _; omega) | decide | (exact nfB) | (intro hg; refine ⟨hg, ?_⟩; omega) | (simp; done) | (simp; omega))))
  refine hK3 _ _ ?_
  try clear hK3 K3
  refine AWp.mask [false, true, true, false, false, false, false, false, false, false, false, true] rfl ?_
  simp only [go_sem]
  refine AWp.cond _ rfl (fun hc0 => ?_) (fun hc0 => ?_)
  · skip
    try simp only [decide_eq_true_eq, decide_eq_false_iff_not, Bool.not_eq_true', Bool.not_eq_false', Bool.and_eq_true, Bool.or_eq_true, Bool.and_eq_false_iff, Bool.or_eq_false_iff, Int.not_lt, Int.not_le, beq_iff_eq, beq_eq_false_iff_ne, ne_eq, Bool.not_eq_true, Bool.not_eq_false] at hc0
    refine AWp.rs fun K4 hK4 => ?_
    try simp only [go_sem, hE, List.getD_nil, List.take_nil, List.map_nil, List.headD_nil, hi0, decide_false, fb1]
    (repeat (with_reducible refine And.intro ?_ ?_; (first | omega | (intro _; omega) | decide | (exact nfB) | (intro hg; refine ⟨hg, ?_⟩; omega) | (simp; done) | (simp; omega))))
    refine hK4 _ _ ?_
    try clear hK4 K4
    refine AWp.ret ?_
    try simp only [go_sem, hE, List.getD_nil, List.take_nil, List.map_nil, List.headD_nil, hi0, decide_false, fb1]
    rw [cF_kind c d (by simp [inB]; omega)]
  · skip
    try simp only [decide_eq_true_eq, decide_eq_false_iff_not, Bool.not_eq_true', Bool.not_eq_false', Bool.and_eq_true, Bool.or_eq_true, Bool.and_eq_false_iff, Bool.or_eq_false_iff, Int.not_lt, Int.not_le, beq_iff_eq, beq_eq_false_iff_ne, ne_eq, Bool.not_eq_true, Bool.not_eq_false] at hc0
    have hk : inB c.kind 1 10 = true := by simp [inB]; omega
    refine AWp.skip ?_
    refine thenQ_n ?_
    refine hK2 _ _ ?_
    try clear hK2 K2
    refine AWp.seq fun K5 hK5 => ?_
    refine AWp.rs fun K6 hK6 => ?_
    try simp only [go_sem, hE, List.getD_nil, List.take_nil, List.map_nil, List.headD_nil, hi0, decide_false, fb1]
    (repeat (with_reducible refine And.intro ?_ ?_; (first | omega | (intro _; omega) | decide | (exact nfB) | (intro hg; refine ⟨hg, ?_⟩; omega) | (simp; done) | (simp; omega))))
    refine hK6 _ _ ?_
    try clear hK6 K6
    refine AWp.cond _ rfl (fun hc1 => ?_) (fun hc1 => ?_)
    · skip
      try simp only [decide_eq_true_eq, decide_eq_false_iff_not, Bool.not_eq_true', Bool.not_eq_false', Bool.and_eq_true, Bool.or_eq_true, Bool.and_eq_false_iff, Bool.or_eq_false_iff, Int.not_lt, Int.not_le, beq_iff_eq, beq_eq_false_iff_ne, ne_eq, Bool.not_eq_true, Bool.not_eq_false] at hc1
      refine AWp.rs fun K7 hK7 => ?_
      try simp only [go_sem, hE, List.getD_nil, List.take_nil, List.map_nil, List.headD_nil, hi0, decide_false, fb1]
      (repeat (with_reducible refine And.intro ?_ ?_; (first | omega | (intro _; omega) | decide | (exact nfB) | (intro hg; refine ⟨hg, ?_⟩; omega) | (simp; done) | (simp; omega))))
      refine hK7 _ _ ?_
      try clear hK7 K7
      refine AWp.mask [false, false, true] rfl ?_
      simp only [go_sem]
      refine AWp.ret ?_
      try simp only [go_sem, hE, List.getD_nil, List.take_nil, List.map_nil, List.headD_nil, hi0, decide_false, fb1]
      rw [cF_deep c d hk (by omega)]
    · skip
      try simp only [decide_eq_true_eq, decide_eq_false_iff_not, Bool.not_eq_true', Bool.not_eq_false', Bool.and_eq_true, Bool.or_eq_true, Bool.and_eq_false_iff, Bool.or_eq_false_iff, Int.not_lt, Int.not_le, beq_iff_eq, beq_eq_false_iff_ne, ne_eq, Bool.not_eq_true, Bool.not_eq_false] at hc1
      have hd6 : d ≤ 6 := by omega
      refine AWp.skip ?_
      refine thenQ_n ?_
      refine hK5 _ _ ?_
      try clear hK5 K5
      refine AWp.seq fun K8 hK8 => ?_
      refine AWp.rs fun K9 hK9 => ?_
      try simp only [go_sem, hE, List.getD_nil, List.take_nil, List.map_nil, List.headD_nil, hi0, decide_false, fb1]
      (repeat (with_reducible refine And.intro ?_ ?_; (first | omega | (intro _; omega) | decide | (exact nfB) | (intro hg; refine ⟨hg, ?_⟩; omega) | (simp; done) | (simp; omega))))
      refine hK9 _ _ ?_
      try clear hK9 K9
      refine AWp.mask [true, true, false, false, false, false, false, true] rfl ?_
      simp only [go_sem]
      refine AWp.cond _ rfl (fun hc2 => ?_) (fun hc2 => ?_)
      · skip
        try simp only [decide_eq_true_eq, decide_eq_false_iff_not, Bool.not_eq_true', Bool.not_eq_false', Bool.and_eq_true, Bool.or_eq_true, Bool.and_eq_false_iff, Bool.or_eq_false_iff, Int.not_lt, Int.not_le, beq_iff_eq, beq_eq_false_iff_ne, ne_eq, Bool.not_eq_true, Bool.not_eq_false] at hc2
        refine AWp.seq fun K10 hK10 => ?_
        refine AWp.rs fun K11 hK11 => ?_
        try simp only [go_sem, hE, List.getD_nil, List.take_nil, List.map_nil, List.headD_nil, hi0, decide_false, fb1]
        (repeat (with_reducible refine And.intro ?_ ?_; (first | omega | (intro _; omega) | decide | (exact nfB) | (intro hg; refine ⟨hg, ?_⟩; omega) | (simp; done) | (simp; omega))))
        refine hK11 _ _ ?_
        try clear hK11 K11
        refine AWp.mask [true, true, false, false, false, false, true] rfl ?_
        simp only [go_sem]
        refine AWp.cond _ rfl (fun hc3 => ?_) (fun hc3 => ?_)
        · skip
          try simp only [decide_eq_true_eq, decide_eq_false_iff_not, Bool.not_eq_true', Bool.not_eq_false', Bool.and_eq_true, Bool.or_eq_true, Bool.and_eq_false_iff, Bool.or_eq_false_iff, Int.not_lt, Int.not_le, beq_iff_eq, beq_eq_false_iff_ne, ne_eq, Bool.not_eq_true, Bool.not_eq_false] at hc3
          refine AWp.rs fun K12 hK12 => ?_
          try simp only [go_sem, hE, List.getD_nil, List.take_nil, List.map_nil, List.headD_nil, hi0, decide_false, fb1]
          (repeat (with_reducible refine And.intro ?_ ?_; (first | omega | (intro _; omega) | decide | (exact nfB) | (intro hg; refine ⟨hg, ?_⟩; omega) | (simp; done) | (simp; omega))))
          refine hK12 _ _ ?_
          try clear hK12 K12
          refine AWp.ret ?_
          try simp only [go_sem, hE, List.getD_nil, List.take_nil, List.map_nil, List.headD_nil, hi0, decide_false, fb1]
          rw [cF_if c d hd6 hc2, if_pos (by omega)]
        · skip
          try simp only [decide_eq_true_eq, decide_eq_false_iff_not, Bool.not_eq_true', Bool.not_eq_false', Bool.and_eq_true, Bool.or_eq_true, Bool.and_eq_false_iff, Bool.or_eq_false_iff, Int.not_lt, Int.not_le, beq_iff_eq, beq_eq_false_iff_ne, ne_eq, Bool.not_eq_true, Bool.not_eq_false] at hc3
          have h1 : cF c d = if tF c.test 1 = 0 then (if cFL c.thn (d + 1) = 0 then cFE c.els d else cFL c.thn (d + 1)) else tF c.test 1 := by rw [cF_if c d hd6 hc2, if_neg (by omega)]
          refine AWp.skip ?_
          refine thenQ_n ?_
          refine hK10 _ _ ?_
          try clear hK10 K10
          refine AWp.seq fun K13 hK13 => ?_
          refine AWp.rs fun K14 hK14 => ?_
          try simp only [go_sem, hE, List.getD_nil, List.take_nil, List.map_nil, List.headD_nil, hi0, decide_false, fb1]
          (repeat (with_reducible refine And.intro ?_ ?_; (first | omega | (intro _; omega) | decide | (exact nfB) | (intro hg; refine ⟨hg, ?_⟩; omega) | (simp; done) | (simp; omega))))
          refine DW.pcr rfl rfl rfl rfl (checkTest_c T _ s2 _ (by omega) (by omega)) rfl rfl ?_
          try simp only [go_sem, hE, List.getD_nil, List.take_nil, List.map_nil, List.headD_nil, hi0, decide_false, fb1]
          (repeat (with_reducible refine And.intro ?_ ?_; (first | omega | (intro _; omega) | decide | (exact nfB) | (intro hg; refine ⟨hg, ?_⟩; omega) | (simp; done) | (simp; omega))))
          refine hK14 _ _ ?_
          try clear hK14 K14
          refine AWp.mask [true, true, true] rfl ?_
          simp only [go_sem]
          refine AWp.rs fun K15 hK15 => ?_
          try simp only [go_sem, hE, List.getD_nil, List.take_nil, List.map_nil, List.headD_nil, hi0, decide_false, fb1]
          (repeat (with_reducible refine And.intro ?_ ?_; (first | omega | (intro _; omega) | decide | (exact nfB) | (intro hg; refine ⟨hg, ?_⟩; omega) | (simp; done) | (simp; omega))))
          refine hK15 _ _ ?_
          try clear hK15 K15
          refine AWp.cond _ rfl (fun hc4 => ?_) (fun hc4 => ?_)
          · skip
            try simp only [decide_eq_true_eq, decide_eq_false_iff_not, Bool.not_eq_true', Bool.not_eq_false', Bool.and_eq_true, Bool.or_eq_true, Bool.and_eq_false_iff, Bool.or_eq_false_iff, Int.not_lt, Int.not_le, beq_iff_eq, beq_eq_false_iff_ne, ne_eq, Bool.not_eq_true, Bool.not_eq_false] at hc4
            refine AWp.rs fun K16 hK16 => ?_
            try simp only [go_sem, hE, List.getD_nil, List.take_nil, List.map_nil, List.headD_nil, hi0, decide_false, fb1]
            (repeat (with_reducible refine And.intro ?_ ?_; (first | omega | (intro _; omega) | decide | (exact nfB) | (intro hg; refine ⟨hg, ?_⟩; omega) | (simp; done) | (simp; omega))))
            refine hK16 _ _ ?_
            try clear hK16 K16
            refine AWp.mask [false, false, true] rfl ?_
            simp only [go_sem]
            refine AWp.ret ?_
            try simp only [go_sem, hE, List.getD_nil, List.take_nil, List.map_nil, List.headD_nil, hi0, decide_false, fb1]
            rw [h1, if_neg hc4]
          · skip
            try simp only [decide_eq_true_eq, decide_eq_false_iff_not, Bool.not_eq_true', Bool.not_eq_false', Bool.and_eq_true, Bool.or_eq_true, Bool.and_eq_false_iff, Bool.or_eq_false_iff, Int.not_lt, Int.not_le, beq_iff_eq, beq_eq_false_iff_ne, ne_eq, Bool.not_eq_true, Bool.not_eq_false] at hc4
            refine AWp.skip ?_
            refine thenQ_n ?_
            refine hK13 _ _ ?_
            try clear hK13 K13
            refine AWp.seq fun K17 hK17 => ?_
            refine AWp.rs fun K18 hK18 => ?_
            try simp only [go_sem, hE, List.getD_nil, List.take_nil, List.map_nil, List.headD_nil, hi0, decide_false, fb1]
            (repeat (with_reducible refine And.intro ?_ ?_; (first | omega | (intro _; omega) | decide | (exact nfB) | (intro hg; refine ⟨hg, ?_⟩; omega) | (simp; done) | (simp; omega))))
            refine DW.pcr rfl rfl rfl rfl (i1 _ (by omega) (by omega)) rfl rfl ?_
            try simp only [go_sem, hE, List.getD_nil, List.take_nil, List.map_nil, List.headD_nil, hi0, decide_false, fb1]
            (repeat (with_reducible refine And.intro ?_ ?_; (first | omega | (intro _; omega) | decide | (exact nfB) | (intro hg; refine ⟨hg, ?_⟩; omega) | (simp; done) | (simp; omega))))
            refine hK18 _ _ ?_
            try clear hK18 K18
            refine AWp.mask [true, true, false, true] rfl ?_
            simp only [go_sem]
            refine AWp.rs fun K19 hK19 => ?_
            try simp only [go_sem, hE, List.getD_nil, List.take_nil, List.map_nil, List.headD_nil, hi0, decide_false, fb1]
            (repeat (with_reducible refine And.intro ?_ ?_; (first | omega | (intro _; omega) | decide | (exact nfB) | (intro hg; refine ⟨hg, ?_⟩; omega) | (simp; done) | (simp; omega))))
            refine hK19 _ _ ?_
            try clear hK19 K19
            refine AWp.cond _ rfl (fun hc5 => ?_) (fun hc5 => ?_)
            · skip
              try simp only [decide_eq_true_eq, decide_eq_false_iff_not, Bool.not_eq_true', Bool.not_eq_false', Bool.and_eq_true, Bool.or_eq_true, Bool.and_eq_false_iff, Bool.or_eq_false_iff, Int.not_lt, Int.not_le, beq_iff_eq, beq_eq_false_iff_ne, ne_eq, Bool.not_eq_true, Bool.not_eq_false] at hc5
              refine AWp.rs fun K20 hK20 => ?_
              try simp only [go_sem, hE, List.getD_nil, List.take_nil, List.map_nil, List.headD_nil, hi0, decide_false, fb1]
              (repeat (with_reducible refine And.intro ?_ ?_; (first | omega | (intro _; omega) | decide | (exact nfB) | (intro hg; refine ⟨hg, ?_⟩; omega) | (simp; done) | (simp; omega))))
              refine hK20 _ _ ?_
              try clear hK20 K20
              refine AWp.mask [false, false, true] rfl ?_
              simp only [go_sem]
              refine AWp.ret ?_
              try simp only [go_sem, hE, List.getD_nil, List.take_nil, List.map_nil, List.headD_nil, hi0, decide_false, fb1]
              rw [h1, if_pos hc4, if_neg hc5]
            · skip
              try simp only [decide_eq_true_eq, decide_eq_false_iff_not, Bool.not_eq_true', Bool.not_eq_false', Bool.and_eq_true, Bool.or_eq_true, Bool.and_eq_false_iff, Bool.or_eq_false_iff, Int.not_lt, Int.not_le, beq_iff_eq, beq_eq_false_iff_ne, ne_eq, Bool.not_eq_true, Bool.not_eq_false] at hc5
              refine AWp.skip ?_
              refine thenQ_n ?_
              refine hK17 _ _ ?_
              try clear hK17 K17
              refine AWp.seq fun K21 hK21 => ?_
              refine AWp.rs fun K22 hK22 => ?_
              try simp only [go_sem, hE, List.getD_nil, List.take_nil, List.map_nil, List.headD_nil, hi0, decide_false, fb1]
              (repeat (with_reducible refine And.intro ?_ ?_; (first | omega | (intro _; omega) | decide | (exact nfB) | (intro hg; refine ⟨hg, ?_⟩; omega) | (simp; done) | (simp; omega))))
              refine hK22 _ _ ?_
              try clear hK22 K22
              refine AWp.mask [true, true, false, false, false, false, false, false, false, false, false, false, false, false, false, false, true] rfl ?_
              simp only [go_sem]
              refine AWp.cond _ rfl (fun hc6 => ?_) (fun hc6 => ?_)
              · skip
                simp at hc6
              · skip
                try simp only [decide_eq_true_eq, decide_eq_false_iff_not, Bool.not_eq_true', Bool.not_eq_false', Bool.and_eq_true, Bool.or_eq_true, Bool.and_eq_false_iff, Bool.or_eq_false_iff, Int.not_lt, Int.not_le, beq_iff_eq, beq_eq_false_iff_ne, ne_eq, Bool.not_eq_true, Bool.not_eq_false] at hc6
                refine AWp.skip ?_
                refine thenQ_n ?_
                refine hK21 _ _ ?_
                try clear hK21 K21
                refine AWp.rs fun K23 hK23 => ?_
                try simp only [go_sem, hE, List.getD_nil, List.take_nil, List.map_nil, List.headD_nil, hi0, decide_false, fb1]
                (repeat (with_reducible refine And.intro ?_ ?_; (first | omega | (intro _; omega) | decide | (exact nfB) | (intro hg; refine ⟨hg, ?_⟩; omega) | (simp; done) | (simp; omega))))
                refine DW.pcr rfl rfl rfl rfl (i2e _ (by omega) (by omega)) rfl rfl ?_
                try simp only [go_sem, hE, List.getD_nil, List.take_nil, List.map_nil, List.headD_nil, hi0, decide_false, fb1]
                (repeat (with_reducible refine And.intro ?_ ?_; (first | omega | (intro _; omega) | decide | (exact nfB) | (intro hg; refine ⟨hg, ?_⟩; omega) | (simp; done) | (simp; omega))))
                refine hK23 _ _ ?_
                try clear hK23 K23
                refine AWp.mask [false, false, true] rfl ?_
                simp only [go_sem]
                refine AWp.ret ?_
                try simp only [go_sem, hE, List.getD_nil, List.take_nil, List.map_nil, List.headD_nil, hi0, decide_false, fb1]
                rw [h1, if_pos hc4, if_pos hc5, cFE_f c d (elsifC_1 c (by omega))]
      · skip
        try simp only [decide_eq_true_eq, decide_eq_false_iff_not, Bool.not_eq_true', Bool.not_eq_false', Bool.and_eq_true, Bool.or_eq_true, Bool.and_eq_false_iff, Bool.or_eq_false_iff, Int.not_lt, Int.not_le, beq_iff_eq, beq_eq_false_iff_ne, ne_eq, Bool.not_eq_true, Bool.not_eq_false] at hc2
        refine AWp.skip ?_
        refine thenQ_n ?_
        refine hK8 _ _ ?_
        try clear hK8 K8
        refine AWp.rs fun K24 hK24 => ?_
        try simp only [go_sem, hE, List.getD_nil, List.take_nil, List.map_nil, List.headD_nil, hi0, decide_false, fb1]
        (repeat (with_reducible refine And.intro ?_ ?_; (first | omega | (intro _; omega) | decide | (exact nfB) | (intro hg; refine ⟨hg, ?_⟩; omega) | (simp; done) | (simp; omega))))
        refine hK24 _ _ ?_
        try clear hK24 K24
        refine AWp.mask [false, true, true] rfl ?_
        simp only [go_sem]
        refine AWp.seq fun K25 hK25 => ?_
        refine AWp.rs fun K26 hK26 => ?_
        try simp only [go_sem, hE, List.getD_nil, List.take_nil, List.map_nil, List.headD_nil, hi0, decide_false, fb1]
        (repeat (with_reducible refine And.intro ?_ ?_; (first | omega | (intro _; omega) | decide | (exact nfB) | (intro hg; refine ⟨hg, ?_⟩; omega) | (simp; done) | (simp; omega))))
        refine hK26 _ _ ?_
        try clear hK26 K26
        refine AWp.block ?_
        refine AWp.seq fun K27 hK27 => ?_
        refine AWp.rs fun K28 hK28 => ?_
        try simp only [go_sem, hE, List.getD_nil, List.take_nil, List.map_nil, List.headD_nil, hi0, decide_false, fb1]
        (repeat (with_reducible refine And.intro ?_ ?_; (first | omega | (intro _; omega) | decide | (exact nfB) | (intro hg; refine ⟨hg, ?_⟩; omega) | (simp; done) | (simp; omega))))
        refine hK28 _ _ ?_
        try clear hK28 K28
        refine AWp.mask [true, true, false, true, true] rfl ?_
        simp only [go_sem]
        apply AWp.boK (z := (_ || (_ || _))) hK27 [true, true, true] 68
        · skip
          refine AWp.cond _ rfl (fun hc7 => ?_) (fun hc7 => ?_)
          rotate_left
          · skip
            refine AWp.rs fun K29 hK29 => ?_
            try simp only [go_sem, hE, List.getD_nil, List.take_nil, List.map_nil, List.headD_nil, hi0, decide_false, fb1]
            (repeat (with_reducible refine And.intro ?_ ?_; (first | omega | (intro _; omega) | decide | (exact nfB) | (intro hg; refine ⟨hg, ?_⟩; omega) | (simp; done) | (simp; omega))))
            refine hK29 _ _ ?_
            try clear hK29 K29
            refine AWp.cond _ rfl (fun hc8 => ?_) (fun hc8 => ?_)
            rotate_left
            · skip
              refine AWp.rk fun K30 hK30 => ?_
              try simp only [go_sem, hE, List.getD_nil, List.take_nil, List.map_nil, List.headD_nil, hi0, decide_false, fb1]
              (repeat (with_reducible refine And.intro ?_ ?_; (first | omega | (intro _; omega) | decide | (exact nfB) | (intro hg; refine ⟨hg, ?_⟩; omega) | (simp; done) | (simp; omega))))
              refine hK30 _ _ ?_
              try clear hK30 K30
              refine thenQ_n ?_
              refine EndS.mkr [true, true, true] [false, false, false, true] rfl ?_ ?_
              · (try simp only [go_sem, hE, List.getD_nil, List.take_nil, List.map_nil, List.headD_nil, hi0, decide_false, fb1]) <;> try rfl
              exact .e ⟨EqS.bo (or_f hc7 (or_f hc8 rfl)), ⟨rfl⟩⟩
            · skip
              refine AWp.skip ?_
              refine thenQ_n ?_
              refine EndS.mkr [true, true, true] [false, false, false, true] rfl ?_ ?_
              · (try simp only [go_sem, hE, List.getD_nil, List.take_nil, List.map_nil, List.headD_nil, hi0, decide_false, fb1]) <;> try rfl
              exact .e ⟨EqS.bo (or_f hc7 (or_t hc8)), ⟨rfl⟩⟩
          · skip
            refine AWp.skip ?_
            refine thenQ_n ?_
            refine EndS.mkr [true, true, true] [false, false, false, true] rfl ?_ ?_
            · (try simp only [go_sem, hE, List.getD_nil, List.take_nil, List.map_nil, List.headD_nil, hi0, decide_false, fb1]) <;> try rfl
            exact .e ⟨EqS.bo (or_t hc7), ⟨rfl⟩⟩
        · skip
          simp only [go_sem]
          refine AWp.cond _ rfl (fun hc9 => ?_) (fun hc9 => ?_)
          · skip
            try simp only [decide_eq_true_eq, decide_eq_false_iff_not, Bool.not_eq_true', Bool.not_eq_false', Bool.and_eq_true, Bool.or_eq_true, Bool.and_eq_false_iff, Bool.or_eq_false_iff, Int.not_lt, Int.not_le, beq_iff_eq, beq_eq_false_iff_ne, ne_eq, Bool.not_eq_true, Bool.not_eq_false] at hc9
            refine AWp.rk fun K31 hK31 => ?_
            try simp only [go_sem, hE, List.getD_nil, List.take_nil, List.map_nil, List.headD_nil, hi0, decide_false, fb1]
            (repeat (with_reducible refine And.intro ?_ ?_; (first | omega | (intro _; omega) | decide | (exact nfB) | (intro hg; refine ⟨hg, ?_⟩; omega) | (simp; done) | (simp; omega))))
            refine hK31 _ _ ?_
            try clear hK31 K31
            refine blkQ_n (thenQ_n ?_)
            refine hK25 _ _ ?_
            try clear hK25 K25
            refine AWp.mask [true, true] rfl ?_
            simp only [go_sem]
            refine AWp.seq fun K32 hK32 => ?_
            refine AWp.rs fun K33 hK33 => ?_
            try simp only [go_sem, hE, List.getD_nil, List.take_nil, List.map_nil, List.headD_nil, hi0, decide_false, fb1]
            (repeat (with_reducible refine And.intro ?_ ?_; (first | omega | (intro _; omega) | decide | (exact nfB) | (intro hg; refine ⟨hg, ?_⟩; omega) | (simp; done) | (simp; omega))))
            refine DW.pcgr rfl rfl rfl rfl rfl (fun hg => bare_c T _ s2) (fun hg => by (try simp only [go_sem, hE, List.getD_nil, List.take_nil, List.map_nil, List.headD_nil, hi0, decide_false, fb1]) <;> first | exact hg | (simpa using hg) | grind) rfl rfl ?_
            try simp only [go_sem, hE, List.getD_nil, List.take_nil, List.map_nil, List.headD_nil, hi0, decide_false, fb1]
            (repeat (with_reducible refine And.intro ?_ ?_; (first | omega | (intro _; omega) | decide | (exact nfB) | (intro hg; refine ⟨hg, ?_⟩; omega) | (simp; done) | (simp; omega))))
            refine hK33 _ _ ?_
            try clear hK33 K33
            refine AWp.mask [false, false, false, false, false, false, false, false, false, false, false, false, false, false, false, false, false, false, false, true] rfl ?_
            simp only [go_sem]
            refine AWp.cond _ rfl (fun hc13 => ?_) (fun hc13 => ?_)
            · skip
              try simp only [decide_eq_true_eq, decide_eq_false_iff_not, Bool.not_eq_true', Bool.not_eq_false', Bool.and_eq_true, Bool.or_eq_true, Bool.and_eq_false_iff, Bool.or_eq_false_iff, Int.not_lt, Int.not_le, beq_iff_eq, beq_eq_false_iff_ne, ne_eq, Bool.not_eq_true, Bool.not_eq_false] at hc13
              refine AWp.rs fun K34 hK34 => ?_
              try simp only [go_sem, hE, List.getD_nil, List.take_nil, List.map_nil, List.headD_nil, hi0, decide_false, fb1]
              (repeat (with_reducible refine And.intro ?_ ?_; (first | omega | (intro _; omega) | decide | (exact nfB) | (intro hg; refine ⟨hg, ?_⟩; omega) | (simp; done) | (simp; omega))))
              refine hK34 _ _ ?_
              try clear hK34 K34
              refine AWp.ret ?_
              try simp only [go_sem, hE, List.getD_nil, List.take_nil, List.map_nil, List.headD_nil, hi0, decide_false, fb1]
              rw [cF_flat c d hk hd6 hc2, if_neg (by rw [okC_iff]; rintro ⟨⟨a1, a2⟩, a3, a4, a5, a6, a7⟩; rcases hc13 with (h | h | h) | h <;> first | omega | (rw [a2] at h; cases h))]
            · skip
              try simp only [decide_eq_true_eq, decide_eq_false_iff_not, Bool.not_eq_true', Bool.not_eq_false', Bool.and_eq_true, Bool.or_eq_true, Bool.and_eq_false_iff, Bool.or_eq_false_iff, Int.not_lt, Int.not_le, beq_iff_eq, beq_eq_false_iff_ne, ne_eq, Bool.not_eq_true, Bool.not_eq_false] at hc13
              refine AWp.skip ?_
              refine thenQ_n ?_
              refine hK32 _ _ ?_
              try clear hK32 K32
              refine AWp.rs fun K35 hK35 => ?_
              try simp only [go_sem, hE, List.getD_nil, List.take_nil, List.map_nil, List.headD_nil, hi0, decide_false, fb1]
              (repeat (with_reducible refine And.intro ?_ ?_; (first | omega | (intro _; omega) | decide | (exact nfB) | (intro hg; refine ⟨hg, ?_⟩; omega) | (simp; done) | (simp; omega))))
              refine hK35 _ _ ?_
              try clear hK35 K35
              refine AWp.ret ?_
              try simp only [go_sem, hE, List.getD_nil, List.take_nil, List.map_nil, List.headD_nil, hi0, decide_false, fb1]
              obtain ⟨⟨g1, g2, g3⟩, g4⟩ := hc13
              rw [cF_flat c d hk hd6 hc2, if_pos ((okC_iff c).2 ⟨⟨g2, g3⟩, by omega, by omega, by omega, by omega, by omega⟩)]
          · skip
            try simp only [decide_eq_true_eq, decide_eq_false_iff_not, Bool.not_eq_true', Bool.not_eq_false', Bool.and_eq_true, Bool.or_eq_true, Bool.and_eq_false_iff, Bool.or_eq_false_iff, Int.not_lt, Int.not_le, beq_iff_eq, beq_eq_false_iff_ne, ne_eq, Bool.not_eq_true, Bool.not_eq_false] at hc9
            refine AWp.seq fun K36 hK36 => ?_
            refine AWp.rs fun K37 hK37 => ?_
            try simp only [go_sem, hE, List.getD_nil, List.take_nil, List.map_nil, List.headD_nil, hi0, decide_false, fb1]
            (repeat (with_reducible refine And.intro ?_ ?_; (first | omega | (intro _; omega) | decide | (exact nfB) | (intro hg; refine ⟨hg, ?_⟩; omega) | (simp; done) | (simp; omega))))
            refine hK37 _ _ ?_
            try clear hK37 K37
            refine AWp.mask [true, true, true, false, true] rfl ?_
            simp only [go_sem]
            apply AWp.boK (z := (_ || (_ || _))) hK36 [true, true] 76
            · skip
              refine AWp.cond _ rfl (fun hc10 => ?_) (fun hc10 => ?_)
              rotate_left
              · skip
                refine AWp.rs fun K38 hK38 => ?_
                try simp only [go_sem, hE, List.getD_nil, List.take_nil, List.map_nil, List.headD_nil, hi0, decide_false, fb1]
                (repeat (with_reducible refine And.intro ?_ ?_; (first | omega | (intro _; omega) | decide | (exact nfB) | (intro hg; refine ⟨hg, ?_⟩; omega) | (simp; done) | (simp; omega))))
                refine hK38 _ _ ?_
                try clear hK38 K38
                refine AWp.cond _ rfl (fun hc11 => ?_) (fun hc11 => ?_)
                rotate_left
                · skip
                  refine AWp.rk fun K39 hK39 => ?_
                  try simp only [go_sem, hE, List.getD_nil, List.take_nil, List.map_nil, List.headD_nil, hi0, decide_false, fb1]
                  (repeat (with_reducible refine And.intro ?_ ?_; (first | omega | (intro _; omega) | decide | (exact nfB) | (intro hg; refine ⟨hg, ?_⟩; omega) | (simp; done) | (simp; omega))))
                  refine hK39 _ _ ?_
                  try clear hK39 K39
                  refine thenQ_n ?_
                  refine EndS.mkr [true, true] [false, false, false, true] rfl ?_ ?_
                  · (try simp only [go_sem, hE, List.getD_nil, List.take_nil, List.map_nil, List.headD_nil, hi0, decide_false, fb1]) <;> try rfl
                  exact .e ⟨EqS.bo (or_f hc10 (or_f hc11 rfl)), ⟨rfl⟩⟩
                · skip
                  refine AWp.skip ?_
                  refine thenQ_n ?_
                  refine EndS.mkr [true, true] [false, false, false, true] rfl ?_ ?_
                  · (try simp only [go_sem, hE, List.getD_nil, List.take_nil, List.map_nil, List.headD_nil, hi0, decide_false, fb1]) <;> try rfl
                  exact .e ⟨EqS.bo (or_f hc10 (or_t hc11)), ⟨rfl⟩⟩
              · skip
                refine AWp.skip ?_
                refine thenQ_n ?_
                refine EndS.mkr [true, true] [false, false, false, true] rfl ?_ ?_
                · (try simp only [go_sem, hE, List.getD_nil, List.take_nil, List.map_nil, List.headD_nil, hi0, decide_false, fb1]) <;> try rfl
                exact .e ⟨EqS.bo (or_t hc10), ⟨rfl⟩⟩
            · skip
              simp only [go_sem]
              refine AWp.cond _ rfl (fun hc12 => ?_) (fun hc12 => ?_)
              · skip
                try simp only [decide_eq_true_eq, decide_eq_false_iff_not, Bool.not_eq_true', Bool.not_eq_false', Bool.and_eq_true, Bool.or_eq_true, Bool.and_eq_false_iff, Bool.or_eq_false_iff, Int.not_lt, Int.not_le, beq_iff_eq, beq_eq_false_iff_ne, ne_eq, Bool.not_eq_true, Bool.not_eq_false] at hc12
                refine AWp.rk fun K40 hK40 => ?_
                try simp only [go_sem, hE, List.getD_nil, List.take_nil, List.map_nil, List.headD_nil, hi0, decide_false, fb1]
                (repeat (with_reducible refine And.intro ?_ ?_; (first | omega | (intro _; omega) | decide | (exact nfB) | (intro hg; refine ⟨hg, ?_⟩; omega) | (simp; done) | (simp; omega))))
                refine hK40 _ _ ?_
                try clear hK40 K40
                refine blkQ_n (thenQ_n ?_)
                refine hK25 _ _ ?_
                try clear hK25 K25
                refine AWp.mask [true, true] rfl ?_
                simp only [go_sem]
                refine AWp.seq fun K41 hK41 => ?_
                refine AWp.rs fun K42 hK42 => ?_
                try simp only [go_sem, hE, List.getD_nil, List.take_nil, List.map_nil, List.headD_nil, hi0, decide_false, fb1]
                (repeat (with_reducible refine And.intro ?_ ?_; (first | omega | (intro _; omega) | decide | (exact nfB) | (intro hg; refine ⟨hg, ?_⟩; omega) | (simp; done) | (simp; omega))))
                refine DW.pcgr rfl rfl rfl rfl rfl (fun hg => bare_c T _ s2) (fun hg => by (try simp only [go_sem, hE, List.getD_nil, List.take_nil, List.map_nil, List.headD_nil, hi0, decide_false, fb1]) <;> first | exact hg | (simpa using hg) | grind) rfl rfl ?_
                try simp only [go_sem, hE, List.getD_nil, List.take_nil, List.map_nil, List.headD_nil, hi0, decide_false, fb1]
                (repeat (with_reducible refine And.intro ?_ ?_; (first | omega | (intro _; omega) | decide | (exact nfB) | (intro hg; refine ⟨hg, ?_⟩; omega) | (simp; done) | (simp; omega))))
                refine hK42 _ _ ?_
                try clear hK42 K42
                refine AWp.mask [false, false, false, false, false, false, false, false, false, false, false, false, false, false, false, false, false, false, false, true] rfl ?_
                simp only [go_sem]
                refine AWp.cond _ rfl (fun hc13 => ?_) (fun hc13 => ?_)
                · skip
                  try simp only [decide_eq_true_eq, decide_eq_false_iff_not, Bool.not_eq_true', Bool.not_eq_false', Bool.and_eq_true, Bool.or_eq_true, Bool.and_eq_false_iff, Bool.or_eq_false_iff, Int.not_lt, Int.not_le, beq_iff_eq, beq_eq_false_iff_ne, ne_eq, Bool.not_eq_true, Bool.not_eq_false] at hc13
                  refine AWp.rs fun K43 hK43 => ?_
                  try simp only [go_sem, hE, List.getD_nil, List.take_nil, List.map_nil, List.headD_nil, hi0, decide_false, fb1]
                  (repeat (with_reducible refine And.intro ?_ ?_; (first | omega | (intro _; omega) | decide | (exact nfB) | (intro hg; refine ⟨hg, ?_⟩; omega) | (simp; done) | (simp; omega))))
                  refine hK43 _ _ ?_
                  try clear hK43 K43
                  refine AWp.ret ?_
                  try simp only [go_sem, hE, List.getD_nil, List.take_nil, List.map_nil, List.headD_nil, hi0, decide_false, fb1]
                  rw [cF_flat c d hk hd6 hc2, if_neg (by rw [okC_iff]; rintro ⟨⟨a1, a2⟩, a3, a4, a5, a6, a7⟩; rcases hc13 with (h | h | h) | h <;> first | omega | (rw [a2] at h; cases h))]
                · skip
                  try simp only [decide_eq_true_eq, decide_eq_false_iff_not, Bool.not_eq_true', Bool.not_eq_false', Bool.and_eq_true, Bool.or_eq_true, Bool.and_eq_false_iff, Bool.or_eq_false_iff, Int.not_lt, Int.not_le, beq_iff_eq, beq_eq_false_iff_ne, ne_eq, Bool.not_eq_true, Bool.not_eq_false] at hc13
                  refine AWp.skip ?_
                  refine thenQ_n ?_
                  refine hK41 _ _ ?_
                  try clear hK41 K41
                  refine AWp.rs fun K44 hK44 => ?_
                  try simp only [go_sem, hE, List.getD_nil, List.take_nil, List.map_nil, List.headD_nil, hi0, decide_false, fb1]
                  (repeat (with_reducible refine And.intro ?_ ?_; (first | omega | (intro _; omega) | decide | (exact nfB) | (intro hg; refine ⟨hg, ?_⟩; omega) | (simp; done) | (simp; omega))))
                  refine hK44 _ _ ?_
                  try clear hK44 K44
                  refine AWp.ret ?_
                  try simp only [go_sem, hE, List.getD_nil, List.take_nil, List.map_nil, List.headD_nil, hi0, decide_false, fb1]
                  obtain ⟨⟨g1, g2, g3⟩, g4⟩ := hc13
                  rw [cF_flat c d hk hd6 hc2, if_pos ((okC_iff c).2 ⟨⟨g2, g3⟩, by omega, by omega, by omega, by omega, by omega⟩)]
              · skip
                try simp only [decide_eq_true_eq, decide_eq_false_iff_not, Bool.not_eq_true', Bool.not_eq_false', Bool.and_eq_true, Bool.or_eq_true, Bool.and_eq_false_iff, Bool.or_eq_false_iff, Int.not_lt, Int.not_le, beq_iff_eq, beq_eq_false_iff_ne, ne_eq, Bool.not_eq_true, Bool.not_eq_false] at hc12
                refine AWp.skip ?_
                refine blkQ_n (thenQ_n ?_)
                refine hK25 _ _ ?_
                try clear hK25 K25
                refine AWp.seq fun K45 hK45 => ?_
                refine AWp.rs fun K46 hK46 => ?_
                try simp only [go_sem, hE, List.getD_nil, List.take_nil, List.map_nil, List.headD_nil, hi0, decide_false, fb1]
                (repeat (with_reducible refine And.intro ?_ ?_; (first | omega | (intro _; omega) | decide | (exact nfB) | (intro hg; refine ⟨hg, ?_⟩; omega) | (simp; done) | (simp; omega))))
                refine DW.pcgr rfl rfl rfl rfl rfl (fun hg => bare_c T _ s2) (fun hg => by (try simp only [go_sem, hE, List.getD_nil, List.take_nil, List.map_nil, List.headD_nil, hi0, decide_false, fb1]) <;> first | exact hg | (simpa using hg) | grind) rfl rfl ?_
                try simp only [go_sem, hE, List.getD_nil, List.take_nil, List.map_nil, List.headD_nil, hi0, decide_false, fb1]
                (repeat (with_reducible refine And.intro ?_ ?_; (first | omega | (intro _; omega) | decide | (exact nfB) | (intro hg; refine ⟨hg, ?_⟩; omega) | (simp; done) | (simp; omega))))
                refine hK46 _ _ ?_
                try clear hK46 K46
                refine AWp.mask [false, false, false, false, false, false, false, false, false, false, false, false, false, false, false, false, false, false, false, false, true] rfl ?_
                simp only [go_sem]
                refine AWp.cond _ rfl (fun hc13 => ?_) (fun hc13 => ?_)
                · skip
                  try simp only [decide_eq_true_eq, decide_eq_false_iff_not, Bool.not_eq_true', Bool.not_eq_false', Bool.and_eq_true, Bool.or_eq_true, Bool.and_eq_false_iff, Bool.or_eq_false_iff, Int.not_lt, Int.not_le, beq_iff_eq, beq_eq_false_iff_ne, ne_eq, Bool.not_eq_true, Bool.not_eq_false] at hc13
                  refine AWp.rs fun K47 hK47 => ?_
                  try simp only [go_sem, hE, List.getD_nil, List.take_nil, List.map_nil, List.headD_nil, hi0, decide_false, fb1]
                  (repeat (with_reducible refine And.intro ?_ ?_; (first | omega | (intro _; omega) | decide | (exact nfB) | (intro hg; refine ⟨hg, ?_⟩; omega) | (simp; done) | (simp; omega))))
                  refine hK47 _ _ ?_
                  try clear hK47 K47
                  refine AWp.ret ?_
                  try simp only [go_sem, hE, List.getD_nil, List.take_nil, List.map_nil, List.headD_nil, hi0, decide_false, fb1]
                  rw [cF_flat c d hk hd6 hc2, if_neg (by rw [okC_iff]; rintro ⟨⟨a1, a2⟩, a3, a4, a5, a6, a7⟩; rcases hc13 with (h | h | h) | h <;> first | omega | (rw [a2] at h; cases h))]
                · skip
                  try simp only [decide_eq_true_eq, decide_eq_false_iff_not, Bool.not_eq_true', Bool.not_eq_false', Bool.and_eq_true, Bool.or_eq_true, Bool.and_eq_false_iff, Bool.or_eq_false_iff, Int.not_lt, Int.not_le, beq_iff_eq, beq_eq_false_iff_ne, ne_eq, Bool.not_eq_true, Bool.not_eq_false] at hc13
                  refine AWp.skip ?_
                  refine thenQ_n ?_
                  refine hK45 _ _ ?_
                  try clear hK45 K45
                  refine AWp.rs fun K48 hK48 => ?_
                  try simp only [go_sem, hE, List.getD_nil, List.take_nil, List.map_nil, List.headD_nil, hi0, decide_false, fb1]
                  (repeat (with_reducible refine And.intro ?_ ?_; (first | omega | (intro _; omega) | decide | (exact nfB) | (intro hg; refine ⟨hg, ?_⟩; omega) | (simp; done) | (simp; omega))))
                  refine hK48 _ _ ?_
                  try clear hK48 K48
                  refine AWp.ret ?_
                  try simp only [go_sem, hE, List.getD_nil, List.take_nil, List.map_nil, List.headD_nil, hi0, decide_false, fb1]
                  obtain ⟨⟨g1, g2, g3⟩, g4⟩ := hc13
                  rw [cF_flat c d hk hd6 hc2, if_pos ((okC_iff c).2 ⟨⟨g2, g3⟩, by omega, by omega, by omega, by omega, by omega⟩)]
set_option maxRecDepth 4000 in
set_option maxHeartbeats 1000000 in
theorem check_1 (T : Tbl) (c : Cmd) (ok : c.Ok) (h0 : 0 < c.els.length) (d : Int) (hd : -9 ≤ d) (hd2 : d ≤ 7) (i1 : ∀ d : Int, -9 ≤ d → d ≤ 7 → PC Tryd.prog T 56 [.d (.slc 12 (thnD c)), .d (.int .i64 d)] (.d (.int .i64 (cFL c.thn d)))) (i2 : ∀ d : Int, -9 ≤ d → d ≤ 7 → PC Tryd.prog T 56 [.d (.slc 12 (elsD c)), .d (.int .i64 d)] (.d (.int .i64 (cFL c.els d)))) (i3 : ∀ x ∈ c.els, ∀ d : Int, -9 ≤ d → d ≤ 7 → PC Tryd.prog T 108 [.agg (cmdA x), .d (.int .i64 d)] (.d (.int .i64 (cF x d)))) : PC Tryd.prog T 108 [.agg (cmdA c), .d (.int .i64 d)] (.d (.int .i64 (cF c d))) := by
  refine ⟨Tryd.call108, PCall.enterS Tryd.func108 rfl Tryd.ntmps108 rfl fun hb => ?_⟩
  obtain ⟨s1, s2, s3, s4, s5, s6⟩ := ok.inv
  have el1 : ((c.els.length : Int) = 1) = (c.els.length = 1) := by simp only [eq_iff_iff]; omega
  simp only [go_sem, Tryd.results108]
  refine AWp.rs fun K1 hK1 => ?_
  try simp only [go_sem, elsD_get c _ _ h0, el1]
  (repeat (with_reducible refine And.intro ?_ ?_; (first | omega | (intro _; omega) | decide | (exact nfB) | (intro hg; refine ⟨hg, ?_⟩; omega) | (simp; done) | (simp; omega))))
  intro b1 fb1
  try simp only [freshL] at fb1
  try simp only [go_sem, elsD_get c _ _ h0, el1, fb1]
  (repeat (with_reducible refine And.intro ?_ ?_; (first | omega | (intro _; omega) | decide | (exact nfB) | (intro hg; refine ⟨hg, ?_⟩; omega) | (simp; done) | (simp; omega))))
  refine hK1 _ _ ?_
  try clear hK1 K1
  refine AWp.seq fun K2 hK2 => ?_
  refine AWp.rs fun K3 hK3 => ?_
  try simp only [go_sem, elsD_get c _ _ h0, el1, fb1]
  (repeat (with_reducible refine And.intro ?_ ?_; (first | omega | (intro _; omega) | decide | (exact nfB) | (intro hg; refine ⟨hg, ?_⟩; omega) | (simp; done) | (simp; omega))))
  refine hK3 _ _ ?_
  try clear hK3 K3
  refine AWp.mask [false, true, true, false, false, false, false, false, false, false, false, true] rfl ?_
  simp only [go_sem]
  refine AWp.cond _ rfl (fun hc0 => ?_) (fun hc0 => ?_)
  · skip
    try simp only [decide_eq_true_eq, decide_eq_false_iff_not, Bool.not_eq_true', Bool.not_eq_false', Bool.and_eq_true, Bool.or_eq_true, Bool.and_eq_false_iff, Bool.or_eq_false_iff, Int.not_lt, Int.not_le, beq_iff_eq, beq_eq_false_iff_ne, ne_eq, Bool.not_eq_true, Bool.not_eq_false] at hc0
    refine AWp.rs fun K4 hK4 => ?_
    try simp only [go_sem, elsD_get c _ _ h0, el1, fb1]
    (repeat (with_reducible refine And.intro ?_ ?_; (first | omega | (intro _; omega) | decide | (exact nfB) | (intro hg; refine ⟨hg, ?_⟩; omega) | (simp; done) | (simp; omega))))
    refine hK4 _ _ ?_
    try clear hK4 K4
    refine AWp.ret ?_
    try simp only [go_sem, elsD_get c _ _ h0, el1, fb1]
    rw [cF_kind c d (by simp [inB]; omega)]
  · skip
    try simp only [decide_eq_true_eq, decide_eq_false_iff_not, Bool.not_eq_true', Bool.not_eq_false', Bool.and_eq_true, Bool.or_eq_true, Bool.and_eq_false_iff, Bool.or_eq_false_iff, Int.not_lt, Int.not_le, beq_iff_eq, beq_eq_false_iff_ne, ne_eq, Bool.not_eq_true, Bool.not_eq_false] at hc0
    have hk : inB c.kind 1 10 = true := by simp [inB]; omega
    refine AWp.skip ?_
    refine thenQ_n ?_
    refine hK2 _ _ ?_
    try clear hK2 K2
    refine AWp.seq fun K5 hK5 => ?_
    refine AWp.rs fun K6 hK6 => ?_
    try simp only [go_sem, elsD_get c _ _ h0, el1, fb1]
    (repeat (with_reducible refine And.intro ?_ ?_; (first | omega | (intro _; omega) | decide | (exact nfB) | (intro hg; refine ⟨hg, ?_⟩; omega) | (simp; done) | (simp; omega))))
    refine hK6 _ _ ?_
    try clear hK6 K6
    refine AWp.cond _ rfl (fun hc1 => ?_) (fun hc1 => ?_)
    · skip
      try simp only [decide_eq_true_eq, decide_eq_false_iff_not, Bool.not_eq_true', Bool.not_eq_false', Bool.and_eq_true, Bool.or_eq_true, Bool.and_eq_false_iff, Bool.or_eq_false_iff, Int.not_lt, Int.not_le, beq_iff_eq, beq_eq_false_iff_ne, ne_eq, Bool.not_eq_true, Bool.not_eq_false] at hc1
      refine AWp.rs fun K7 hK7 => ?_
      try simp only [go_sem, elsD_get c _ _ h0, el1, fb1]
      (repeat (with_reducible refine And.intro ?_ ?_; (first | omega | (intro _; omega) | decide | (exact nfB) | (intro hg; refine ⟨hg, ?_⟩; omega) | (simp; done) | (simp; omega))))
      refine hK7 _ _ ?_
      try clear hK7 K7
      refine AWp.mask [false, false, true] rfl ?_
      simp only [go_sem]
      refine AWp.ret ?_
      try simp only [go_sem, elsD_get c _ _ h0, el1, fb1]
      rw [cF_deep c d hk (by omega)]
    · skip
      try simp only [decide_eq_true_eq, decide_eq_false_iff_not, Bool.not_eq_true', Bool.not_eq_false', Bool.and_eq_true, Bool.or_eq_true, Bool.and_eq_false_iff, Bool.or_eq_false_iff, Int.not_lt, Int.not_le, beq_iff_eq, beq_eq_false_iff_ne, ne_eq, Bool.not_eq_true, Bool.not_eq_false] at hc1
      have hd6 : d ≤ 6 := by omega
      refine AWp.skip ?_
      refine thenQ_n ?_
      refine hK5 _ _ ?_
      try clear hK5 K5
      refine AWp.seq fun K8 hK8 => ?_
      refine AWp.rs fun K9 hK9 => ?_
      try simp only [go_sem, elsD_get c _ _ h0, el1, fb1]
      (repeat (with_reducible refine And.intro ?_ ?_; (first | omega | (intro _; omega) | decide | (exact nfB) | (intro hg; refine ⟨hg, ?_⟩; omega) | (simp; done) | (simp; omega))))
      refine hK9 _ _ ?_
      try clear hK9 K9
      refine AWp.mask [true, true, false, false, false, false, false, true] rfl ?_
      simp only [go_sem]
      refine AWp.cond _ rfl (fun hc2 => ?_) (fun hc2 => ?_)
      · skip
        try simp only [decide_eq_true_eq, decide_eq_false_iff_not, Bool.not_eq_true', Bool.not_eq_false', Bool.and_eq_true, Bool.or_eq_true, Bool.and_eq_false_iff, Bool.or_eq_false_iff, Int.not_lt, Int.not_le, beq_iff_eq, beq_eq_false_iff_ne, ne_eq, Bool.not_eq_true, Bool.not_eq_false] at hc2
        refine AWp.seq fun K10 hK10 => ?_
        refine AWp.rs fun K11 hK11 => ?_
        try simp only [go_sem, elsD_get c _ _ h0, el1, fb1]
        (repeat (with_reducible refine And.intro ?_ ?_; (first | omega | (intro _; omega) | decide | (exact nfB) | (intro hg; refine ⟨hg, ?_⟩; omega) | (simp; done) | (simp; omega))))
        refine hK11 _ _ ?_
        try clear hK11 K11
        refine AWp.mask [true, true, false, false, false, false, true] rfl ?_
        simp only [go_sem]
        refine AWp.cond _ rfl (fun hc3 => ?_) (fun hc3 => ?_)
        · skip
          try simp only [decide_eq_true_eq, decide_eq_false_iff_not, Bool.not_eq_true', Bool.not_eq_false', Bool.and_eq_true, Bool.or_eq_true, Bool.and_eq_false_iff, Bool.or_eq_false_iff, Int.not_lt, Int.not_le, beq_iff_eq, beq_eq_false_iff_ne, ne_eq, Bool.not_eq_true, Bool.not_eq_false] at hc3
          refine AWp.rs fun K12 hK12 => ?_
          try simp only [go_sem, elsD_get c _ _ h0, el1, fb1]
          (repeat (with_reducible refine And.intro ?_ ?_; (first | omega | (intro _; omega) | decide | (exact nfB) | (intro hg; refine ⟨hg, ?_⟩; omega) | (simp; done) | (simp; omega))))
          refine hK12 _ _ ?_
          try clear hK12 K12
          refine AWp.ret ?_
          try simp only [go_sem, elsD_get c _ _ h0, el1, fb1]
          rw [cF_if c d hd6 hc2, if_pos (by omega)]
        · skip
          try simp only [decide_eq_true_eq, decide_eq_false_iff_not, Bool.not_eq_true', Bool.not_eq_false', Bool.and_eq_true, Bool.or_eq_true, Bool.and_eq_false_iff, Bool.or_eq_false_iff, Int.not_lt, Int.not_le, beq_iff_eq, beq_eq_false_iff_ne, ne_eq, Bool.not_eq_true, Bool.not_eq_false] at hc3
          have h1 : cF c d = if tF c.test 1 = 0 then (if cFL c.thn (d + 1) = 0 then cFE c.els d else cFL c.thn (d + 1)) else tF c.test 1 := by rw [cF_if c d hd6 hc2, if_neg (by omega)]
          refine AWp.skip ?_
          refine thenQ_n ?_
          refine hK10 _ _ ?_
          try clear hK10 K10
          refine AWp.seq fun K13 hK13 => ?_
          refine AWp.rs fun K14 hK14 => ?_
          try simp only [go_sem, elsD_get c _ _ h0, el1, fb1]
          (repeat (with_reducible refine And.intro ?_ ?_; (first | omega | (intro _; omega) | decide | (exact nfB) | (intro hg; refine ⟨hg, ?_⟩; omega) | (simp; done) | (simp; omega))))
          refine DW.pcr rfl rfl rfl rfl (checkTest_c T _ s2 _ (by omega) (by omega)) rfl rfl ?_
          try simp only [go_sem, elsD_get c _ _ h0, el1, fb1]
          (repeat (with_reducible refine And.intro ?_ ?_; (first | omega | (intro _; omega) | decide | (exact nfB) | (intro hg; refine ⟨hg, ?_⟩; omega) | (simp; done) | (simp; omega))))
          refine hK14 _ _ ?_
          try clear hK14 K14
          refine AWp.mask [true, true, true] rfl ?_
          simp only [go_sem]
          refine AWp.rs fun K15 hK15 => ?_
          try simp only [go_sem, elsD_get c _ _ h0, el1, fb1]
          (repeat (with_reducible refine And.intro ?_ ?_; (first | omega | (intro _; omega) | decide | (exact nfB) | (intro hg; refine ⟨hg, ?_⟩; omega) | (simp; done) | (simp; omega))))
          refine hK15 _ _ ?_
          try clear hK15 K15
          refine AWp.cond _ rfl (fun hc4 => ?_) (fun hc4 => ?_)
          · skip
            try simp only [decide_eq_true_eq, decide_eq_false_iff_not, Bool.not_eq_true', Bool.not_eq_false', Bool.and_eq_true, Bool.or_eq_true, Bool.and_eq_false_iff, Bool.or_eq_false_iff, Int.not_lt, Int.not_le, beq_iff_eq, beq_eq_false_iff_ne, ne_eq, Bool.not_eq_true, Bool.not_eq_false] at hc4
            refine AWp.rs fun K16 hK16 => ?_
            try simp only [go_sem, elsD_get c _ _ h0, el1, fb1]
            (repeat (with_reducible refine And.intro ?_ ?_; (first | omega | (intro _; omega) | decide | (exact nfB) | (intro hg; refine ⟨hg, ?_⟩; omega) | (simp; done) | (simp; omega))))
            refine hK16 _ _ ?_
            try clear hK16 K16
            refine AWp.mask [false, false, true] rfl ?_
            simp only [go_sem]
            refine AWp.ret ?_
            try simp only [go_sem, elsD_get c _ _ h0, el1, fb1]
            rw [h1, if_neg hc4]
          · skip
            try simp only [decide_eq_true_eq, decide_eq_false_iff_not, Bool.not_eq_true', Bool.not_eq_false', Bool.and_eq_true, Bool.or_eq_true, Bool.and_eq_false_iff, Bool.or_eq_false_iff, Int.not_lt, Int.not_le, beq_iff_eq, beq_eq_false_iff_ne, ne_eq, Bool.not_eq_true, Bool.not_eq_false] at hc4
            refine AWp.skip ?_
            refine thenQ_n ?_
            refine hK13 _ _ ?_
            try clear hK13 K13
            refine AWp.seq fun K17 hK17 => ?_
            refine AWp.rs fun K18 hK18 => ?_
            try simp only [go_sem, elsD_get c _ _ h0, el1, fb1]
            (repeat (with_reducible refine And.intro ?_ ?_; (first | omega | (intro _; omega) | decide | (exact nfB) | (intro hg; refine ⟨hg, ?_⟩; omega) | (simp; done) | (simp; omega))))
            refine DW.pcr rfl rfl rfl rfl (i1 _ (by omega) (by omega)) rfl rfl ?_
            try simp only [go_sem, elsD_get c _ _ h0, el1, fb1]
            (repeat (with_reducible refine And.intro ?_ ?_; (first | omega | (intro _; omega) | decide | (exact nfB) | (intro hg; refine ⟨hg, ?_⟩; omega) | (simp; done) | (simp; omega))))
            refine hK18 _ _ ?_
            try clear hK18 K18
            refine AWp.mask [true, true, false, true] rfl ?_
            simp only [go_sem]
            refine AWp.rs fun K19 hK19 => ?_
            try simp only [go_sem, elsD_get c _ _ h0, el1, fb1]
            (repeat (with_reducible refine And.intro ?_ ?_; (first | omega | (intro _; omega) | decide | (exact nfB) | (intro hg; refine ⟨hg, ?_⟩; omega) | (simp; done) | (simp; omega))))
            refine hK19 _ _ ?_
            try clear hK19 K19
            refine AWp.cond _ rfl (fun hc5 => ?_) (fun hc5 => ?_)
            · skip
              try simp only [decide_eq_true_eq, decide_eq_false_iff_not, Bool.not_eq_true', Bool.not_eq_false', Bool.and_eq_true, Bool.or_eq_true, Bool.and_eq_false_iff, Bool.or_eq_false_iff, Int.not_lt, Int.not_le, beq_iff_eq, beq_eq_false_iff_ne, ne_eq, Bool.not_eq_true, Bool.not_eq_false] at hc5
              refine AWp.rs fun K20 hK20 => ?_
              try simp only [go_sem, elsD_get c _ _ h0, el1, fb1]
              (repeat (with_reducible refine And.intro ?_ ?_; (first | omega | (intro _; omega) | decide | (exact nfB) | (intro hg; refine ⟨hg, ?_⟩; omega) | (simp; done) | (simp; omega))))
              refine hK20 _ _ ?_
              try clear hK20 K20
              refine AWp.mask [false, false, true] rfl ?_
              simp only [go_sem]
              refine AWp.ret ?_
              try simp only [go_sem, elsD_get c _ _ h0, el1, fb1]
              rw [h1, if_pos hc4, if_neg hc5]
            · skip
              try simp only [decide_eq_true_eq, decide_eq_false_iff_not, Bool.not_eq_true', Bool.not_eq_false', Bool.and_eq_true, Bool.or_eq_true, Bool.and_eq_false_iff, Bool.or_eq_false_iff, Int.not_lt, Int.not_le, beq_iff_eq, beq_eq_false_iff_ne, ne_eq, Bool.not_eq_true, Bool.not_eq_false] at hc5
              refine AWp.skip ?_
              refine thenQ_n ?_
              refine hK17 _ _ ?_
              try clear hK17 K17
              refine AWp.seq fun K21 hK21 => ?_
              refine AWp.rs fun K22 hK22 => ?_
              try simp only [go_sem, elsD_get c _ _ h0, el1, fb1]
              (repeat (with_reducible refine And.intro ?_ ?_; (first | omega | (intro _; omega) | decide | (exact nfB) | (intro hg; refine ⟨hg, ?_⟩; omega) | (simp; done) | (simp; omega))))
              refine hK22 _ _ ?_
              try clear hK22 K22
              refine AWp.mask [true, true, false, false, false, false, false, false, false, false, false, false, false, false, false, false, true] rfl ?_
              simp only [go_sem]
              refine AWp.cond _ rfl (fun hc6 => ?_) (fun hc6 => ?_)
              · skip
                try simp only [decide_eq_true_eq, decide_eq_false_iff_not, Bool.not_eq_true', Bool.not_eq_false', Bool.and_eq_true, Bool.or_eq_true, Bool.and_eq_false_iff, Bool.or_eq_false_iff, Int.not_lt, Int.not_le, beq_iff_eq, beq_eq_false_iff_ne, ne_eq, Bool.not_eq_true, Bool.not_eq_false] at hc6
                refine AWp.rs fun K23 hK23 => ?_
                try simp only [go_sem, elsD_get c _ _ h0, el1, fb1]
                (repeat (with_reducible refine And.intro ?_ ?_; (first | omega | (intro _; omega) | decide | (exact nfB) | (intro hg; refine ⟨hg, ?_⟩; omega) | (simp; done) | (simp; omega))))
                refine DW.pcr rfl rfl rfl rfl (i3 _ (List.getElem_mem h0) _ (by omega) (by omega)) rfl rfl ?_
                try simp only [go_sem, elsD_get c _ _ h0, el1, fb1]
                (repeat (with_reducible refine And.intro ?_ ?_; (first | omega | (intro _; omega) | decide | (exact nfB) | (intro hg; refine ⟨hg, ?_⟩; omega) | (simp; done) | (simp; omega))))
                refine hK23 _ _ ?_
                try clear hK23 K23
                refine AWp.mask [false, false, true] rfl ?_
                simp only [go_sem]
                refine AWp.ret ?_
                try simp only [go_sem, elsD_get c _ _ h0, el1, fb1]
                rw [h1, if_pos hc4, if_pos hc5, cFE_t c d (by rw [elsD_kind c h0]; simp [hc6]) h0]
              · skip
                try simp only [decide_eq_true_eq, decide_eq_false_iff_not, Bool.not_eq_true', Bool.not_eq_false', Bool.and_eq_true, Bool.or_eq_true, Bool.and_eq_false_iff, Bool.or_eq_false_iff, Int.not_lt, Int.not_le, beq_iff_eq, beq_eq_false_iff_ne, ne_eq, Bool.not_eq_true, Bool.not_eq_false] at hc6
                refine AWp.skip ?_
                refine thenQ_n ?_
                refine hK21 _ _ ?_
                try clear hK21 K21
                refine AWp.rs fun K24 hK24 => ?_
                try simp only [go_sem, elsD_get c _ _ h0, el1, fb1]
                (repeat (with_reducible refine And.intro ?_ ?_; (first | omega | (intro _; omega) | decide | (exact nfB) | (intro hg; refine ⟨hg, ?_⟩; omega) | (simp; done) | (simp; omega))))
                refine DW.pcr rfl rfl rfl rfl (i2 _ (by omega) (by omega)) rfl rfl ?_
                try simp only [go_sem, elsD_get c _ _ h0, el1, fb1]
                (repeat (with_reducible refine And.intro ?_ ?_; (first | omega | (intro _; omega) | decide | (exact nfB) | (intro hg; refine ⟨hg, ?_⟩; omega) | (simp; done) | (simp; omega))))
                refine hK24 _ _ ?_
                try clear hK24 K24
                refine AWp.mask [false, false, true] rfl ?_
                simp only [go_sem]
                refine AWp.ret ?_
                try simp only [go_sem, elsD_get c _ _ h0, el1, fb1]
                rw [h1, if_pos hc4, if_pos hc5, cFE_f c d (by rw [elsD_kind c h0]; rcases hc6 with h | h <;> simp [h])]
      · skip
        try simp only [decide_eq_true_eq, decide_eq_false_iff_not, Bool.not_eq_true', Bool.not_eq_false', Bool.and_eq_true, Bool.or_eq_true, Bool.and_eq_false_iff, Bool.or_eq_false_iff, Int.not_lt, Int.not_le, beq_iff_eq, beq_eq_false_iff_ne, ne_eq, Bool.not_eq_true, Bool.not_eq_false] at hc2
        refine AWp.skip ?_
        refine thenQ_n ?_
        refine hK8 _ _ ?_
        try clear hK8 K8
        refine AWp.rs fun K25 hK25 => ?_
        try simp only [go_sem, elsD_get c _ _ h0, el1, fb1]
        (repeat (with_reducible refine And.intro ?_ ?_; (first | omega | (intro _; omega) | decide | (exact nfB) | (intro hg; refine ⟨hg, ?_⟩; omega) | (simp; done) | (simp; omega))))
        refine hK25 _ _ ?_
        try clear hK25 K25
        refine AWp.mask [false, true, true] rfl ?_
        simp only [go_sem]
        refine AWp.seq fun K26 hK26 => ?_
        refine AWp.rs fun K27 hK27 => ?_
        try simp only [go_sem, elsD_get c _ _ h0, el1, fb1]
        (repeat (with_reducible refine And.intro ?_ ?_; (first | omega | (intro _; omega) | decide | (exact nfB) | (intro hg; refine ⟨hg, ?_⟩; omega) | (simp; done) | (simp; omega))))
        refine hK27 _ _ ?_
        try clear hK27 K27
        refine AWp.block ?_
        refine AWp.seq fun K28 hK28 => ?_
        refine AWp.rs fun K29 hK29 => ?_
        try simp only [go_sem, elsD_get c _ _ h0, el1, fb1]
        (repeat (with_reducible refine And.intro ?_ ?_; (first | omega | (intro _; omega) | decide | (exact nfB) | (intro hg; refine ⟨hg, ?_⟩; omega) | (simp; done) | (simp; omega))))
        refine hK29 _ _ ?_
        try clear hK29 K29
        refine AWp.mask [true, true, false, true, true] rfl ?_
        simp only [go_sem]
        apply AWp.boK (z := (_ || (_ || _))) hK28 [true, true, true] 68
        · skip
          refine AWp.cond _ rfl (fun hc7 => ?_) (fun hc7 => ?_)
          rotate_left
          · skip
            refine AWp.rs fun K30 hK30 => ?_
            try simp only [go_sem, elsD_get c _ _ h0, el1, fb1]
            (repeat (with_reducible refine And.intro ?_ ?_; (first | omega | (intro _; omega) | decide | (exact nfB) | (intro hg; refine ⟨hg, ?_⟩; omega) | (simp; done) | (simp; omega))))
            refine hK30 _ _ ?_
            try clear hK30 K30
            refine AWp.cond _ rfl (fun hc8 => ?_) (fun hc8 => ?_)
            rotate_left
            · skip
              refine AWp.rk fun K31 hK31 => ?_
              try simp only [go_sem, elsD_get c _ _ h0, el1, fb1]
              (repeat (with_reducible refine And.intro ?_ ?_; (first | omega | (intro _; omega) | decide | (exact nfB) | (intro hg; refine ⟨hg, ?_⟩; omega) | (simp; done) | (simp; omega))))
              refine hK31 _ _ ?_
              try clear hK31 K31
              refine thenQ_n ?_
              refine EndS.mkr [true, true, true] [false, false, false, true] rfl ?_ ?_
              · (try simp only [go_sem, elsD_get c _ _ h0, el1, fb1]) <;> try rfl
              exact .e ⟨EqS.bo (or_f hc7 (or_f hc8 rfl)), ⟨rfl⟩⟩
            · skip
              refine AWp.skip ?_
              refine thenQ_n ?_
              refine EndS.mkr [true, true, true] [false, false, false, true] rfl ?_ ?_
              · (try simp only [go_sem, elsD_get c _ _ h0, el1, fb1]) <;> try rfl
              exact .e ⟨EqS.bo (or_f hc7 (or_t hc8)), ⟨rfl⟩⟩
          · skip
            refine AWp.skip ?_
            refine thenQ_n ?_
            refine EndS.mkr [true, true, true] [false, false, false, true] rfl ?_ ?_
            · (try simp only [go_sem, elsD_get c _ _ h0, el1, fb1]) <;> try rfl
            exact .e ⟨EqS.bo (or_t hc7), ⟨rfl⟩⟩
        · skip
          simp only [go_sem]
          refine AWp.cond _ rfl (fun hc9 => ?_) (fun hc9 => ?_)
          · skip
            try simp only [decide_eq_true_eq, decide_eq_false_iff_not, Bool.not_eq_true', Bool.not_eq_false', Bool.and_eq_true, Bool.or_eq_true, Bool.and_eq_false_iff, Bool.or_eq_false_iff, Int.not_lt, Int.not_le, beq_iff_eq, beq_eq_false_iff_ne, ne_eq, Bool.not_eq_true, Bool.not_eq_false] at hc9
            refine AWp.rk fun K32 hK32 => ?_
            try simp only [go_sem, elsD_get c _ _ h0, el1, fb1]
            (repeat (with_reducible refine And.intro ?_ ?_; (first | omega | (intro _; omega) | decide | (exact nfB) | (intro hg; refine ⟨hg, ?_⟩; omega) | (simp; done) | (simp; omega))))
            refine hK32 _ _ ?_
            try clear hK32 K32
            refine blkQ_n (thenQ_n ?_)
            refine hK26 _ _ ?_
            try clear hK26 K26
            refine AWp.mask [true, true] rfl ?_
            simp only [go_sem]
            refine AWp.seq fun K33 hK33 => ?_
            refine AWp.rs fun K34 hK34 => ?_
            try simp only [go_sem, elsD_get c _ _ h0, el1, fb1]
            (repeat (with_reducible refine And.intro ?_ ?_; (first | omega | (intro _; omega) | decide | (exact nfB) | (intro hg; refine ⟨hg, ?_⟩; omega) | (simp; done) | (simp; omega))))
            refine DW.pcgr rfl rfl rfl rfl rfl (fun hg => bare_c T _ s2) (fun hg => by (try simp only [go_sem, elsD_get c _ _ h0, el1, fb1]) <;> first | exact hg | (simpa using hg) | grind) rfl rfl ?_
            try simp only [go_sem, elsD_get c _ _ h0, el1, fb1]
            (repeat (with_reducible refine And.intro ?_ ?_; (first | omega | (intro _; omega) | decide | (exact nfB) | (intro hg; refine ⟨hg, ?_⟩; omega) | (simp; done) | (simp; omega))))
            refine hK34 _ _ ?_
            try clear hK34 K34
            refine AWp.mask [false, false, false, false, false, false, false, false, false, false, false, false, false, false, false, false, false, false, false, true] rfl ?_
            simp only [go_sem]
            refine AWp.cond _ rfl (fun hc13 => ?_) (fun hc13 => ?_)
            · skip
              try simp only [decide_eq_true_eq, decide_eq_false_iff_not, Bool.not_eq_true', Bool.not_eq_false', Bool.and_eq_true, Bool.or_eq_true, Bool.and_eq_false_iff, Bool.or_eq_false_iff, Int.not_lt, Int.not_le, beq_iff_eq, beq_eq_false_iff_ne, ne_eq, Bool.not_eq_true, Bool.not_eq_false] at hc13
              refine AWp.rs fun K35 hK35 => ?_
              try simp only [go_sem, elsD_get c _ _ h0, el1, fb1]
              (repeat (with_reducible refine And.intro ?_ ?_; (first | omega | (intro _; omega) | decide | (exact nfB) | (intro hg; refine ⟨hg, ?_⟩; omega) | (simp; done) | (simp; omega))))
              refine hK35 _ _ ?_
              try clear hK35 K35
              refine AWp.ret ?_
              try simp only [go_sem, elsD_get c _ _ h0, el1, fb1]
              rw [cF_flat c d hk hd6 hc2, if_neg (by rw [okC_iff]; rintro ⟨⟨a1, a2⟩, a3, a4, a5, a6, a7⟩; rcases hc13 with (h | h | h) | h <;> first | omega | (rw [a2] at h; cases h))]
            · skip
              try simp only [decide_eq_true_eq, decide_eq_false_iff_not, Bool.not_eq_true', Bool.not_eq_false', Bool.and_eq_true, Bool.or_eq_true, Bool.and_eq_false_iff, Bool.or_eq_false_iff, Int.not_lt, Int.not_le, beq_iff_eq, beq_eq_false_iff_ne, ne_eq, Bool.not_eq_true, Bool.not_eq_false] at hc13
              refine AWp.skip ?_
              refine thenQ_n ?_
              refine hK33 _ _ ?_
              try clear hK33 K33
              refine AWp.rs fun K36 hK36 => ?_
              try simp only [go_sem, elsD_get c _ _ h0, el1, fb1]
              (repeat (with_reducible refine And.intro ?_ ?_; (first | omega | (intro _; omega) | decide | (exact nfB) | (intro hg; refine ⟨hg, ?_⟩; omega) | (simp; done) | (simp; omega))))
              refine hK36 _ _ ?_
              try clear hK36 K36
              refine AWp.ret ?_
              try simp only [go_sem, elsD_get c _ _ h0, el1, fb1]
              obtain ⟨⟨g1, g2, g3⟩, g4⟩ := hc13
              rw [cF_flat c d hk hd6 hc2, if_pos ((okC_iff c).2 ⟨⟨g2, g3⟩, by omega, by omega, by omega, by omega, by omega⟩)]
          · skip
            try simp only [decide_eq_true_eq, decide_eq_false_iff_not, Bool.not_eq_true', Bool.not_eq_false', Bool.and_eq_true, Bool.or_eq_true, Bool.and_eq_false_iff, Bool.or_eq_false_iff, Int.not_lt, Int.not_le, beq_iff_eq, beq_eq_false_iff_ne, ne_eq, Bool.not_eq_true, Bool.not_eq_false] at hc9
            refine AWp.seq fun K37 hK37 => ?_
            refine AWp.rs fun K38 hK38 => ?_
            try simp only [go_sem, elsD_get c _ _ h0, el1, fb1]
            (repeat (with_reducible refine And.intro ?_ ?_; (first | omega | (intro _; omega) | decide | (exact nfB) | (intro hg; refine ⟨hg, ?_⟩; omega) | (simp; done) | (simp; omega))))
            refine hK38 _ _ ?_
            try clear hK38 K38
            refine AWp.mask [true, true, true, false, true] rfl ?_
            simp only [go_sem]
            apply AWp.boK (z := (_ || (_ || _))) hK37 [true, true] 76
            · skip
              refine AWp.cond _ rfl (fun hc10 => ?_) (fun hc10 => ?_)
              rotate_left
              · skip
                refine AWp.rs fun K39 hK39 => ?_
                try simp only [go_sem, elsD_get c _ _ h0, el1, fb1]
                (repeat (with_reducible refine And.intro ?_ ?_; (first | omega | (intro _; omega) | decide | (exact nfB) | (intro hg; refine ⟨hg, ?_⟩; omega) | (simp; done) | (simp; omega))))
                refine hK39 _ _ ?_
                try clear hK39 K39
                refine AWp.cond _ rfl (fun hc11 => ?_) (fun hc11 => ?_)
                rotate_left
                · skip
                  refine AWp.rk fun K40 hK40 => ?_
                  try simp only [go_sem, elsD_get c _ _ h0, el1, fb1]
                  (repeat (with_reducible refine And.intro ?_ ?_; (first | omega | (intro _; omega) | decide | (exact nfB) | (intro hg; refine ⟨hg, ?_⟩; omega) | (simp; done) | (simp; omega))))
                  refine hK40 _ _ ?_
                  try clear hK40 K40
                  refine thenQ_n ?_
                  refine EndS.mkr [true, true] [false, false, false, true] rfl ?_ ?_
                  · (try simp only [go_sem, elsD_get c _ _ h0, el1, fb1]) <;> try rfl
                  exact .e ⟨EqS.bo (or_f hc10 (or_f hc11 rfl)), ⟨rfl⟩⟩
                · skip
                  refine AWp.skip ?_
                  refine thenQ_n ?_
                  refine EndS.mkr [true, true] [false, false, false, true] rfl ?_ ?_
                  · (try simp only [go_sem, elsD_get c _ _ h0, el1, fb1]) <;> try rfl
                  exact .e ⟨EqS.bo (or_f hc10 (or_t hc11)), ⟨rfl⟩⟩
              · skip
                refine AWp.skip ?_
                refine thenQ_n ?_
                refine EndS.mkr [true, true] [false, false, false, true] rfl ?_ ?_
                · (try simp only [go_sem, elsD_get c _ _ h0, el1, fb1]) <;> try rfl
                exact .e ⟨EqS.bo (or_t hc10), ⟨rfl⟩⟩
            · skip
              simp only [go_sem]
              refine AWp.cond _ rfl (fun hc12 => ?_) (fun hc12 => ?_)
              · skip
                try simp only [decide_eq_true_eq, decide_eq_false_iff_not, Bool.not_eq_true', Bool.not_eq_false', Bool.and_eq_true, Bool.or_eq_true, Bool.and_eq_false_iff, Bool.or_eq_false_iff, Int.not_lt, Int.not_le, beq_iff_eq, beq_eq_false_iff_ne, ne_eq, Bool.not_eq_true, Bool.not_eq_false] at hc12
                refine AWp.rk fun K41 hK41 => ?_
                try simp only [go_sem, elsD_get c _ _ h0, el1, fb1]
                (repeat (with_reducible refine And.intro ?_ ?_; (first | omega | (intro _; omega) | decide | (exact nfB) | (intro hg; refine ⟨hg, ?_⟩; omega) | (simp; done) | (simp; omega))))
                refine hK41 _ _ ?_
                try clear hK41 K41
                refine blkQ_n (thenQ_n ?_)
                refine hK26 _ _ ?_
                try clear hK26 K26
                refine AWp.mask [true, true] rfl ?_
                simp only [go_sem]
                refine AWp.seq fun K42 hK42 => ?_
                refine AWp.rs fun K43 hK43 => ?_
                try simp only [go_sem, elsD_get c _ _ h0, el1, fb1]
                (repeat (with_reducible refine And.intro ?_ ?_; (first | omega | (intro _; omega) | decide | (exact nfB) | (intro hg; refine ⟨hg, ?_⟩; omega) | (simp; done) | (simp; omega))))
                refine DW.pcgr rfl rfl rfl rfl rfl (fun hg => bare_c T _ s2) (fun hg => by (try simp only [go_sem, elsD_get c _ _ h0, el1, fb1]) <;> first | exact hg | (simpa using hg) | grind) rfl rfl ?_
                try simp only [go_sem, elsD_get c _ _ h0, el1, fb1]
                (repeat (with_reducible refine And.intro ?_ ?_; (first | omega | (intro _; omega) | decide | (exact nfB) | (intro hg; refine ⟨hg, ?_⟩; omega) | (simp; done) | (simp; omega))))
                refine hK43 _ _ ?_
                try clear hK43 K43
                refine AWp.mask [false, false, false, false, false, false, false, false, false, false, false, false, false, false, false, false, false, false, false, true] rfl ?_
                simp only [go_sem]
                refine AWp.cond _ rfl (fun hc13 => ?_) (fun hc13 => ?_)
                · skip
                  try simp only [decide_eq_true_eq, decide_eq_false_iff_not, Bool.not_eq_true', Bool.not_eq_false', Bool.and_eq_true, Bool.or_eq_true, Bool.and_eq_false_iff, Bool.or_eq_false_iff, Int.not_lt, Int.not_le, beq_iff_eq, beq_eq_false_iff_ne, ne_eq, Bool.not_eq_true, Bool.not_eq_false] at hc13
                  refine AWp.rs fun K44 hK44 => ?_
                  try simp only [go_sem, elsD_get c _ _ h0, el1, fb1]
                  (repeat (with_reducible refine And.intro ?_ ?_; (first | omega | (intro _; omega) | decide | (exact nfB) | (intro hg; refine ⟨hg, ?_⟩; omega) | (simp; done) | (simp; omega))))
                  refine hK44 _ _ ?_
                  try clear hK44 K44
                  refine AWp.ret ?_
                  try simp only [go_sem, elsD_get c _ _ h0, el1, fb1]
                  rw [cF_flat c d hk hd6 hc2, if_neg (by rw [okC_iff]; rintro ⟨⟨a1, a2⟩, a3, a4, a5, a6, a7⟩; rcases hc13 with (h | h | h) | h <;> first | omega | (rw [a2] at h; cases h))]
                · skip
                  try simp only [decide_eq_true_eq, decide_eq_false_iff_not, Bool.not_eq_true', Bool.not_eq_false', Bool.and_eq_true, Bool.or_eq_true, Bool.and_eq_false_iff, Bool.or_eq_false_iff, Int.not_lt, Int.not_le, beq_iff_eq, beq_eq_false_iff_ne, ne_eq, Bool.not_eq_true, Bool.not_eq_false] at hc13
                  refine AWp.skip ?_
                  refine thenQ_n ?_
                  refine hK42 _ _ ?_
                  try clear hK42 K42
                  refine AWp.rs fun K45 hK45 => ?_
                  try simp only [go_sem, elsD_get c _ _ h0, el1, fb1]
                  (repeat (with_reducible refine And.intro ?_ ?_; (first | omega | (intro _; omega) | decide | (exact nfB) | (intro hg; refine ⟨hg, ?_⟩; omega) | (simp; done) | (simp; omega))))
                  refine hK45 _ _ ?_
                  try clear hK45 K45
                  refine AWp.ret ?_
                  try simp only [go_sem, elsD_get c _ _ h0, el1, fb1]
                  obtain ⟨⟨g1, g2, g3⟩, g4⟩ := hc13
                  rw [cF_flat c d hk hd6 hc2, if_pos ((okC_iff c).2 ⟨⟨g2, g3⟩, by omega, by omega, by omega, by omega, by omega⟩)]
              · skip
                try simp only [decide_eq_true_eq, decide_eq_false_iff_not, Bool.not_eq_true', Bool.not_eq_false', Bool.and_eq_true, Bool.or_eq_true, Bool.and_eq_false_iff, Bool.or_eq_false_iff, Int.not_lt, Int.not_le, beq_iff_eq, beq_eq_false_iff_ne, ne_eq, Bool.not_eq_true, Bool.not_eq_false] at hc12
                refine AWp.skip ?_
                refine blkQ_n (thenQ_n ?_)
                refine hK26 _ _ ?_
                try clear hK26 K26
                refine AWp.seq fun K46 hK46 => ?_
                refine AWp.rs fun K47 hK47 => ?_
                try simp only [go_sem, elsD_get c _ _ h0, el1, fb1]
                (repeat (with_reducible refine And.intro ?_ ?_; (first | omega | (intro _; omega) | decide | (exact nfB) | (intro hg; refine ⟨hg, ?_⟩; omega) | (simp; done) | (simp; omega))))
                refine DW.pcgr rfl rfl rfl rfl rfl (fun hg => bare_c T _ s2) (fun hg => by (try simp only [go_sem, elsD_get c _ _ h0, el1, fb1]) <;> first | exact hg | (simpa using hg) | grind) rfl rfl ?_
                try simp only [go_sem, elsD_get c _ _ h0, el1, fb1]
                (repeat (with_reducible refine And.intro ?_ ?_; (first | omega | (intro _; omega) | decide | (exact nfB) | (intro hg; refine ⟨hg, ?_⟩; omega) | (simp; done) | (simp; omega))))
                refine hK47 _ _ ?_
                try clear hK47 K47
                refine AWp.mask [false, false, false, false, false, false, false, false, false, false, false, false, false, false, false, false, false, false, false, false, true] rfl ?_
                simp only [go_sem]
                refine AWp.cond _ rfl (fun hc13 => ?_) (fun hc13 => ?_)
                · skip
                  try simp only [decide_eq_true_eq, decide_eq_false_iff_not, Bool.not_eq_true', Bool.not_eq_false', Bool.and_eq_true, Bool.or_eq_true, Bool.and_eq_false_iff, Bool.or_eq_false_iff, Int.not_lt, Int.not_le, beq_iff_eq, beq_eq_false_iff_ne, ne_eq, Bool.not_eq_true, Bool.not_eq_false] at hc13
                  refine AWp.rs fun K48 hK48 => ?_
                  try simp only [go_sem, elsD_get c _ _ h0, el1, fb1]
                  (repeat (with_reducible refine And.intro ?_ ?_; (first | omega | (intro _; omega) | decide | (exact nfB) | (intro hg; refine ⟨hg, ?_⟩; omega) | (simp; done) | (simp; omega))))
                  refine hK48 _ _ ?_
                  try clear hK48 K48
                  refine AWp.ret ?_
                  try simp only [go_sem, elsD_get c _ _ h0, el1, fb1]
                  rw [cF_flat c d hk hd6 hc2, if_neg (by rw [okC_iff]; rintro ⟨⟨a1, a2⟩, a3, a4, a5, a6, a7⟩; rcases hc13 with (h | h | h) | h <;> first | omega | (rw [a2] at h; cases h))]
                · skip
                  try simp only [decide_eq_true_eq, decide_eq_false_iff_not, Bool.not_eq_true', Bool.not_eq_false', Bool.and_eq_true, Bool.or_eq_true, Bool.and_eq_false_iff, Bool.or_eq_false_iff, Int.not_lt, Int.not_le, beq_iff_eq, beq_eq_false_iff_ne, ne_eq, Bool.not_eq_true, Bool.not_eq_false] at hc13
                  refine AWp.skip ?_
                  refine thenQ_n ?_
                  refine hK46 _ _ ?_
                  try clear hK46 K46
                  refine AWp.rs fun K49 hK49 => ?_
                  try simp only [go_sem, elsD_get c _ _ h0, el1, fb1]
                  (repeat (with_reducible refine And.intro ?_ ?_; (first | omega | (intro _; omega) | decide | (exact nfB) | (intro hg; refine ⟨hg, ?_⟩; omega) | (simp; done) | (simp; omega))))
                  refine hK49 _ _ ?_
                  try clear hK49 K49
                  refine AWp.ret ?_
                  try simp only [go_sem, elsD_get c _ _ h0, el1, fb1]
                  obtain ⟨⟨g1, g2, g3⟩, g4⟩ := hc13
                  rw [cF_flat c d hk hd6 hc2, if_pos ((okC_iff c).2 ⟨⟨g2, g3⟩, by omega, by omega, by omega, by omega, by omega⟩)]
theorem check_step (T : Tbl) (c : Cmd) (ok : c.Ok) (d : Int) (hd : -9 ≤ d) (hd2 : d ≤ 7) (i1 : ∀ d : Int, -9 ≤ d → d ≤ 7 → PC Tryd.prog T 56 [.d (.slc 12 (thnD c)), .d (.int .i64 d)] (.d (.int .i64 (cFL c.thn d)))) (i2 : ∀ d : Int, -9 ≤ d → d ≤ 7 → PC Tryd.prog T 56 [.d (.slc 12 (elsD c)), .d (.int .i64 d)] (.d (.int .i64 (cFL c.els d)))) (i3 : ∀ x ∈ c.els, ∀ d : Int, -9 ≤ d → d ≤ 7 → PC Tryd.prog T 108 [.agg (cmdA x), .d (.int .i64 d)] (.d (.int .i64 (cF x d)))) : PC Tryd.prog T 108 [.agg (cmdA c), .d (.int .i64 d)] (.d (.int .i64 (cF c d))) := by
  rcases Nat.eq_zero_or_pos c.els.length with h | h
  · exact check_0 T c ok h d hd hd2 i1 i2 i3
  · exact check_1 T c ok h d hd hd2 i1 i2 i3
theorem check_c (T : Tbl) (c : Cmd) (ok : c.Ok) (d : Int) (hd : -9 ≤ d) (hd2 : d ≤ 7) : PC Tryd.prog T 108 [.agg (cmdA c), .d (.int .i64 d)] (.d (.int .i64 (cF c d))) := by
  induction c using Cmd.ind generalizing d with
  | h c i1 i2 =>
    obtain ⟨s1, s2, s3, s4, s5, s6⟩ := ok.inv
    refine check_step T c ok d hd hd2 (fun d h1 h2 => ?_) (fun d h1 h2 => ?_) (fun x hx d h1 h2 => i2 x hx (s6 x hx) d h1 h2)
    · rw [thnD_eq]; exact checkAll_step T _ s3 d h1 h2 fun x hx => i1 x hx (s5 x hx) d h1 h2
    · rw [elsD_eq]; exact checkAll_step T _ s4 d h1 h2 fun x hx => i2 x hx (s6 x hx) d h1 h2
theorem checkAll_c (T : Tbl) (l : List Cmd) (hl : l.length * 208 ≤ 140737488355328) (ok : ∀ x ∈ l, x.Ok) (d : Int) (hd : -9 ≤ d) (hd2 : d ≤ 7) : PC Tryd.prog T 56 [.d (.slc 12 (l.map cmdD)), .d (.int .i64 d)] (.d (.int .i64 (cFL l d))) :=
  checkAll_step T l hl d hd hd2 fun x hx => check_c T x (ok x hx) d hd hd2
theorem commandFault_c (T : Tbl) (c : Cmd) (ok : c.Ok) (d : Int) (hd : -9 ≤ d) (hd2 : d ≤ 7) : PC Tryd.prog T 112 [.agg (cmdA c), .d (.int .i64 d)] (.d (.int .i64 (cF c d))) := by
  induction c using Cmd.ind generalizing d with
  | h c i1 i2 =>
    obtain ⟨s1, s2, s3, s4, s5, s6⟩ := ok.inv
    refine commandFault_step T c ok d hd hd2 (fun d h1 h2 => ?_) (fun d h1 h2 => ?_) (fun x hx d h1 h2 => i2 x hx (s6 x hx) d h1 h2)
    · rw [thnD_eq]; exact listFault_step T _ s3 d h1 h2 fun x hx => i1 x hx (s5 x hx) d h1 h2
    · rw [elsD_eq]; exact listFault_step T _ s4 d h1 h2 fun x hx => i2 x hx (s6 x hx) d h1 h2
theorem listFault_c (T : Tbl) (l : List Cmd) (hl : l.length * 208 ≤ 140737488355328) (ok : ∀ x ∈ l, x.Ok) (d : Int) (hd : -9 ≤ d) (hd2 : d ≤ 7) : PC Tryd.prog T 58 [.d (.slc 12 (l.map cmdD)), .d (.int .i64 d)] (.d (.int .i64 (cFL l d))) :=
  listFault_step T l hl d hd hd2 fun x hx => commandFault_c T x (ok x hx) d hd hd2
end Go.Proofs.YtnoboapafndnlaaDoor

/- Faults, the other way. -/
import Derived.Test.YtnoboapafndnlaaDoorAvTy
import Derived.Test.YtnoboapafndnlaaDoorFault
import Derived.Test.YtnoboapafndnlaaDoorAvP
namespace Go.Proofs.YtnoboapafndnlaaDoor
set_option linter.unusedSimpArgs false
set_option linter.unusedVariables false
def shB (t : Tst) : Bool := if inB t.kind 3 5 then (decide (t.kids.length = 1) || (!decide (t.kind = 3) && decide (0 < t.kids.length))) else if inB t.kind 6 8 then ((decide (1 ≤ t.mat) && decide (t.mat ≤ 3)) && decide (0 < t.names.length) && decide (0 < t.keys.length) && (decide (t.kind = 6) || (decide (1 ≤ t.part) && decide (t.part ≤ 3)))) else if t.kind = 9 then decide (0 < t.names.length) else if t.kind = 10 then (decide (0 ≤ t.limit) && decide (t.limit ≤ 2147483647)) else true
def eqB (t : Tst) : Bool := shB t && ((inB t.kind 6 8 || decide (t.kind = 9)) || decide (t.names.length = 0)) && ((inB t.kind 6 8) || decide (t.keys.length = 0)) && ((inB t.kind 6 8) || decide (t.mat = 0)) && ((inB t.kind 6 8 && !decide (t.kind = 6)) || decide (t.part = 0)) && (decide (t.kind = 10) || !t.over) && (decide (t.kind = 10) || decide (t.limit = 0))
theorem eqB_ok (t : Tst) (hk : inB t.kind 1 10 = true) : (eqB t && (inB t.kind 3 5 || decide (t.kids.length = 0))) = okS t := by
  have : t.kind = 1 ∨ t.kind = 2 ∨ t.kind = 3 ∨ t.kind = 4 ∨ t.kind = 5 ∨ t.kind = 6 ∨ t.kind = 7 ∨ t.kind = 8 ∨ t.kind = 9 ∨ t.kind = 10 := by simp [inB] at hk; omega
  rcases this with h | h | h | h | h | h | h | h | h | h <;> simp [okS, bareB, eqB, shB, inB, h] <;> grind
def neP (t : Tst) : Prop := ((((((t.names.length : Int) ≠ ((if inB t.kind 6 8 = true ∨ t.kind = 9 then t.names else []).length : Int)) ∨ ((t.keys.length : Int) ≠ ((if inB t.kind 6 8 = true then t.keys else []).length : Int))) ∨ (t.mat ≠ if inB t.kind 6 8 = true then t.mat else 0)) ∨ (t.part ≠ if inB t.kind 6 8 = true ∧ ¬t.kind = 6 then t.part else 0)) ∨ (t.over ≠ (decide (t.kind = 10) && t.over))) ∨ (t.limit ≠ if t.kind = 10 then t.limit else 0)
theorem eqB_t (t : Tst) (h : neP t) : eqB t = false := by
  unfold neP at h
  cases h1 : inB t.kind 6 8 <;> by_cases h9 : t.kind = 9 <;> by_cases h6 : t.kind = 6 <;> by_cases h10 : t.kind = 10 <;> simp only [eqB, h1] at h ⊢ <;> simp [h9, h6, h10] at h ⊢ <;> grind
theorem eqB_f (t : Tst) (h : ¬ neP t) : eqB t = shB t := by
  unfold neP at h
  cases h1 : inB t.kind 6 8 <;> by_cases h9 : t.kind = 9 <;> by_cases h6 : t.kind = 6 <;> by_cases h10 : t.kind = 10 <;> simp only [eqB, h1] at h ⊢ <;> simp [h9, h6, h10] at h ⊢ <;> grind
set_option maxRecDepth 4000 in
set_option maxHeartbeats 1000000 in
theorem checkTest_step (T : Tbl) (t : Tst) (ok : t.Ok) (d : Int) (hd : -9 ≤ d) (hd2 : d ≤ 7) (ih : ∀ x ∈ t.kids, ∀ d : Int, -9 ≤ d → d ≤ 7 → PC Tryd.prog T 172 [.agg (tstA x), .d (.int .i64 d)] (.d (.int .i64 (tF x d)))) : PC Tryd.prog T 172 [.agg (tstA t), .d (.int .i64 d)] (.d (.int .i64 (tF t d))) := by
  refine ⟨Tryd.call172, PCall.enterS Tryd.func172 rfl Tryd.ntmps172 rfl fun hb => ?_⟩
  obtain ⟨s1, s2, s3, s4⟩ := ok.inv
  have kl : ((t.kids.length : Int) = 1) = (t.kids.length = 1) := by simp only [eq_iff_iff]; omega
  simp only [go_sem, Tryd.results172]
  refine AWp.rs fun K1 hK1 => ?_
  try simp only [go_sem]
  (repeat (with_reducible refine And.intro ?_ ?_; (first | omega | (intro _; omega) | decide | (exact nfB) | (intro hg; refine ⟨hg, ?_⟩; omega) | (simp; done) | (simp; omega))))
  intro b1 fb1
  try simp only [freshL] at fb1
  try simp only [go_sem, fb1]
  (repeat (with_reducible refine And.intro ?_ ?_; (first | omega | (intro _; omega) | decide | (exact nfB) | (intro hg; refine ⟨hg, ?_⟩; omega) | (simp; done) | (simp; omega))))
  refine hK1 _ _ ?_
  try clear hK1 K1
  refine AWp.seq fun K2 hK2 => ?_
  refine AWp.rs fun K3 hK3 => ?_
  try simp only [go_sem, fb1]
  (repeat (with_reducible refine And.intro ?_ ?_; (first | omega | (intro _; omega) | decide | (exact nfB) | (intro hg; refine ⟨hg, ?_⟩; omega) | (simp; done) | (simp; omega))))
  refine hK3 _ _ ?_
  try clear hK3 K3
  refine AWp.mask [false, true, true, false, false, false, false, false, false, false, false, true] rfl ?_
  simp only [go_sem]
  refine AWp.cond _ rfl (fun hc0 => ?_) (fun hc0 => ?_)
  · skip
    try simp only [decide_eq_true_eq, decide_eq_false_iff_not, Bool.not_eq_true', Bool.not_eq_false', Bool.and_eq_true, Bool.or_eq_true, Bool.and_eq_false_iff, Bool.or_eq_false_iff, Int.not_lt, Int.not_le, beq_iff_eq, beq_eq_false_iff_ne, ne_eq, Bool.not_eq_true, Bool.not_eq_false] at hc0
    refine AWp.rs fun K4 hK4 => ?_
    try simp only [go_sem, fb1]
    (repeat (with_reducible refine And.intro ?_ ?_; (first | omega | (intro _; omega) | decide | (exact nfB) | (intro hg; refine ⟨hg, ?_⟩; omega) | (simp; done) | (simp; omega))))
    refine hK4 _ _ ?_
    try clear hK4 K4
    refine AWp.ret ?_
    try simp only [go_sem, fb1]
    rw [tF_kind]; grind [inB]
  · skip
    try simp only [decide_eq_true_eq, decide_eq_false_iff_not, Bool.not_eq_true', Bool.not_eq_false', Bool.and_eq_true, Bool.or_eq_true, Bool.and_eq_false_iff, Bool.or_eq_false_iff, Int.not_lt, Int.not_le, beq_iff_eq, beq_eq_false_iff_ne, ne_eq, Bool.not_eq_true, Bool.not_eq_false] at hc0
    have hk : inB t.kind 1 10 = true := by grind [inB]
    refine AWp.skip ?_
    refine thenQ_n ?_
    refine hK2 _ _ ?_
    try clear hK2 K2
    refine AWp.seq fun K5 hK5 => ?_
    refine AWp.rs fun K6 hK6 => ?_
    try simp only [go_sem, fb1]
    (repeat (with_reducible refine And.intro ?_ ?_; (first | omega | (intro _; omega) | decide | (exact nfB) | (intro hg; refine ⟨hg, ?_⟩; omega) | (simp; done) | (simp; omega))))
    refine hK6 _ _ ?_
    try clear hK6 K6
    refine AWp.cond _ rfl (fun hc1 => ?_) (fun hc1 => ?_)
    · skip
      try simp only [decide_eq_true_eq, decide_eq_false_iff_not, Bool.not_eq_true', Bool.not_eq_false', Bool.and_eq_true, Bool.or_eq_true, Bool.and_eq_false_iff, Bool.or_eq_false_iff, Int.not_lt, Int.not_le, beq_iff_eq, beq_eq_false_iff_ne, ne_eq, Bool.not_eq_true, Bool.not_eq_false] at hc1
      refine AWp.rs fun K7 hK7 => ?_
      try simp only [go_sem, fb1]
      (repeat (with_reducible refine And.intro ?_ ?_; (first | omega | (intro _; omega) | decide | (exact nfB) | (intro hg; refine ⟨hg, ?_⟩; omega) | (simp; done) | (simp; omega))))
      refine hK7 _ _ ?_
      try clear hK7 K7
      refine AWp.mask [false, false, true] rfl ?_
      simp only [go_sem]
      refine AWp.ret ?_
      try simp only [go_sem, fb1]
      rw [tF_deep _ _ hk (by omega)]
    · skip
      try simp only [decide_eq_true_eq, decide_eq_false_iff_not, Bool.not_eq_true', Bool.not_eq_false', Bool.and_eq_true, Bool.or_eq_true, Bool.and_eq_false_iff, Bool.or_eq_false_iff, Int.not_lt, Int.not_le, beq_iff_eq, beq_eq_false_iff_ne, ne_eq, Bool.not_eq_true, Bool.not_eq_false] at hc1
      have hd6 : d ≤ 6 := by omega
      refine AWp.skip ?_
      refine thenQ_n ?_
      refine hK5 _ _ ?_
      try clear hK5 K5
      refine AWp.rs fun K8 hK8 => ?_
      try simp only [go_sem, fb1]
      (repeat (with_reducible refine And.intro ?_ ?_; (first | omega | (intro _; omega) | decide | (exact nfB) | (intro hg; refine ⟨hg, ?_⟩; omega) | (simp; done) | (simp; omega))))
      intro b5 fb5
      try simp only [freshL] at fb5
      try simp only [go_sem, fb1, fb5]
      (repeat (with_reducible refine And.intro ?_ ?_; (first | omega | (intro _; omega) | decide | (exact nfB) | (intro hg; refine ⟨hg, ?_⟩; omega) | (simp; done) | (simp; omega))))
      refine hK8 _ _ ?_
      try clear hK8 K8
      refine AWp.mask [true, true, true] rfl ?_
      simp only [go_sem]
      refine AWp.rs fun K9 hK9 => ?_
      try simp only [go_sem, fb1, fb5]
      (repeat (with_reducible refine And.intro ?_ ?_; (first | omega | (intro _; omega) | decide | (exact nfB) | (intro hg; refine ⟨hg, ?_⟩; omega) | (simp; done) | (simp; omega))))
      refine hK9 _ _ ?_
      try clear hK9 K9
      refine AWp.joinS [true, true, true] (fun lc hc => EqS lc [(6, .d (.bool (shB t)))] ∧ EqS hc (⟨[(b5, ⟨8, 1, [[.d (.int .i64 t.kind), .d (.int .i64 (if (inB t.kind 6 8) then t.mat else 0)), .d (.int .i64 (if (inB t.kind 6 8 && !decide (t.kind = 6)) then t.part else 0)), .d (.slc 1 ((if (inB t.kind 6 8 || decide (t.kind = 9)) then t.names else []).map strD)), .d (.slc 1 ((if (inB t.kind 6 8) then t.keys else []).map strD)), .d (.bool (decide (t.kind = 10) && t.over)), .d (.int .i64 (if t.kind = 10 then t.limit else 0)), .nils]]⟩), (b1, ⟨8, 1, [tstA t]⟩)], []⟩)) ?_ ?_
      · skip
        refine AWp.rs fun K10 hK10 => ?_
        try simp only [go_sem, fb1, fb5]
        (repeat (with_reducible refine And.intro ?_ ?_; (first | omega | (intro _; omega) | decide | (exact nfB) | (intro hg; refine ⟨hg, ?_⟩; omega) | (simp; done) | (simp; omega))))
        refine hK10 _ _ ?_
        try clear hK10 K10
        refine AWp.block ?_
        refine AWp.seq fun K11 hK11 => ?_
        refine AWp.rs fun K12 hK12 => ?_
        try simp only [go_sem, fb1, fb5]
        (repeat (with_reducible refine And.intro ?_ ?_; (first | omega | (intro _; omega) | decide | (exact nfB) | (intro hg; refine ⟨hg, ?_⟩; omega) | (simp; done) | (simp; omega))))
        refine hK12 _ _ ?_
        try clear hK12 K12
        refine AWp.mask [true, true, true, true, false, true, true] rfl ?_
        simp only [go_sem]
        apply AWp.boK (z := (_ || (_ || _))) hK11 [true, true, true, true, true] 25
        · skip
          refine AWp.cond _ rfl (fun hc2 => ?_) (fun hc2 => ?_)
          rotate_left
          · skip
            refine AWp.rs fun K13 hK13 => ?_
            try simp only [go_sem, fb1, fb5]
            (repeat (with_reducible refine And.intro ?_ ?_; (first | omega | (intro _; omega) | decide | (exact nfB) | (intro hg; refine ⟨hg, ?_⟩; omega) | (simp; done) | (simp; omega))))
            refine hK13 _ _ ?_
            try clear hK13 K13
            refine AWp.cond _ rfl (fun hc3 => ?_) (fun hc3 => ?_)
            rotate_left
            · skip
              refine AWp.rk fun K14 hK14 => ?_
              try simp only [go_sem, fb1, fb5]
              (repeat (with_reducible refine And.intro ?_ ?_; (first | omega | (intro _; omega) | decide | (exact nfB) | (intro hg; refine ⟨hg, ?_⟩; omega) | (simp; done) | (simp; omega))))
              refine hK14 _ _ ?_
              try clear hK14 K14
              refine thenQ_n ?_
              refine EndS.mkr [true, true, true, true, true] [false, false, false, false, false, true] rfl ?_ ?_
              · (try simp only [go_sem, fb1, fb5]) <;> try rfl
              exact .e ⟨EqS.bo (or_f hc2 (or_f hc3 rfl)), ⟨rfl⟩⟩
            · skip
              refine AWp.skip ?_
              refine thenQ_n ?_
              refine EndS.mkr [true, true, true, true, true] [false, false, false, false, false, true] rfl ?_ ?_
              · (try simp only [go_sem, fb1, fb5]) <;> try rfl
              exact .e ⟨EqS.bo (or_f hc2 (or_t hc3)), ⟨rfl⟩⟩
          · skip
            refine AWp.skip ?_
            refine thenQ_n ?_
            refine EndS.mkr [true, true, true, true, true] [false, false, false, false, false, true] rfl ?_ ?_
            · (try simp only [go_sem, fb1, fb5]) <;> try rfl
            exact .e ⟨EqS.bo (or_t hc2), ⟨rfl⟩⟩
        · skip
          simp only [go_sem]
          refine AWp.cond _ rfl (fun hc4 => ?_) (fun hc4 => ?_)
          · skip
            try simp only [decide_eq_true_eq, decide_eq_false_iff_not, Bool.not_eq_true', Bool.not_eq_false', Bool.and_eq_true, Bool.or_eq_true, Bool.and_eq_false_iff, Bool.or_eq_false_iff, Int.not_lt, Int.not_le, beq_iff_eq, beq_eq_false_iff_ne, ne_eq, Bool.not_eq_true, Bool.not_eq_false] at hc4
            have e35 : inB t.kind 3 5 = true := by simp [inB]; omega
            have e68 : inB t.kind 6 8 = false := by simp [inB]; omega
            have k9 : ¬ t.kind = 9 := by omega
            have k10 : ¬ t.kind = 10 := by omega
            refine AWp.rk fun K15 hK15 => ?_
            try simp only [go_sem, fb1, fb5]
            (repeat (with_reducible refine And.intro ?_ ?_; (first | omega | (intro _; omega) | decide | (exact nfB) | (intro hg; refine ⟨hg, ?_⟩; omega) | (simp; done) | (simp; omega))))
            refine hK15 _ _ ?_
            try clear hK15 K15
            refine blkQ_n (thenQ_n ?_)
            refine EndS.mkr [true, true, true] [false, false, false, true] rfl ?_ ?_
            · (try simp only [go_sem, fb1, fb5]) <;> try rfl
            refine .w (([(6, .d (.bool (shB t)))])) (((⟨[(b5, ⟨8, 1, [[.d (.int .i64 t.kind), .d (.int .i64 (if (inB t.kind 6 8) then t.mat else 0)), .d (.int .i64 (if (inB t.kind 6 8 && !decide (t.kind = 6)) then t.part else 0)), .d (.slc 1 ((if (inB t.kind 6 8 || decide (t.kind = 9)) then t.names else []).map strD)), .d (.slc 1 ((if (inB t.kind 6 8) then t.keys else []).map strD)), .d (.bool (decide (t.kind = 10) && t.over)), .d (.int .i64 (if t.kind = 10 then t.limit else 0)), .nils]]⟩), (b1, ⟨8, 1, [tstA t]⟩)], []⟩ : AH).objs)) ?_ ?_ ⟨⟨rfl⟩, ⟨rfl⟩⟩
            · simp only [go_sem, LeSl, fb1, fb5] <;> (first | (simp [shB, kl, hc0, hc1, hc4, e35, e68, k9, k10]; done) | (simp [shB, inB, kl, hc0, hc1, hc4, e35, e68, k9, k10]; done) | (simp [shB, inB, kl, hc0, hc1, hc4, e35, e68, k9, k10] <;> omega) | (simp [shB, kl, hc0, hc1, hc4, e35, e68, k9, k10] <;> grind))
            · simp only [go_sem, fb1, fb5] <;> (first | (simp [kl, hc0, hc1, hc4, e35, e68, k9, k10]; done) | (simp [inB, kl, hc0, hc1, hc4, e35, e68, k9, k10]; done) | (simp [inB, kl, hc0, hc1, hc4, e35, e68, k9, k10] <;> omega) | (simp [kl, hc0, hc1, hc4, e35, e68, k9, k10] <;> grind))
          · skip
            try simp only [decide_eq_true_eq, decide_eq_false_iff_not, Bool.not_eq_true', Bool.not_eq_false', Bool.and_eq_true, Bool.or_eq_true, Bool.and_eq_false_iff, Bool.or_eq_false_iff, Int.not_lt, Int.not_le, beq_iff_eq, beq_eq_false_iff_ne, ne_eq, Bool.not_eq_true, Bool.not_eq_false] at hc4
            have e35 : inB t.kind 3 5 = false := by simp [inB]; omega
            refine AWp.seq fun K16 hK16 => ?_
            refine AWp.rs fun K17 hK17 => ?_
            try simp only [go_sem, fb1, fb5]
            (repeat (with_reducible refine And.intro ?_ ?_; (first | omega | (intro _; omega) | decide | (exact nfB) | (intro hg; refine ⟨hg, ?_⟩; omega) | (simp; done) | (simp; omega))))
            refine hK17 _ _ ?_
            try clear hK17 K17
            refine AWp.mask [true, true, true, true, true, false, true] rfl ?_
            simp only [go_sem]
            apply AWp.boK (z := (_ || (_ || _))) hK16 [true, true, true, true, true] 44
            · skip
              refine AWp.cond _ rfl (fun hc5 => ?_) (fun hc5 => ?_)
              rotate_left
              · skip
                refine AWp.rs fun K18 hK18 => ?_
                try simp only [go_sem, fb1, fb5]
                (repeat (with_reducible refine And.intro ?_ ?_; (first | omega | (intro _; omega) | decide | (exact nfB) | (intro hg; refine ⟨hg, ?_⟩; omega) | (simp; done) | (simp; omega))))
                refine hK18 _ _ ?_
                try clear hK18 K18
                refine AWp.cond _ rfl (fun hc6 => ?_) (fun hc6 => ?_)
                rotate_left
                · skip
                  refine AWp.rk fun K19 hK19 => ?_
                  try simp only [go_sem, fb1, fb5]
                  (repeat (with_reducible refine And.intro ?_ ?_; (first | omega | (intro _; omega) | decide | (exact nfB) | (intro hg; refine ⟨hg, ?_⟩; omega) | (simp; done) | (simp; omega))))
                  refine hK19 _ _ ?_
                  try clear hK19 K19
                  refine thenQ_n ?_
                  refine EndS.mkr [true, true, true, true, true] [false, false, false, false, false, true] rfl ?_ ?_
                  · (try simp only [go_sem, fb1, fb5]) <;> try rfl
                  exact .e ⟨EqS.bo (or_f hc5 (or_f hc6 rfl)), ⟨rfl⟩⟩
                · skip
                  refine AWp.skip ?_
                  refine thenQ_n ?_
                  refine EndS.mkr [true, true, true, true, true] [false, false, false, false, false, true] rfl ?_ ?_
                  · (try simp only [go_sem, fb1, fb5]) <;> try rfl
                  exact .e ⟨EqS.bo (or_f hc5 (or_t hc6)), ⟨rfl⟩⟩
              · skip
                refine AWp.skip ?_
                refine thenQ_n ?_
                refine EndS.mkr [true, true, true, true, true] [false, false, false, false, false, true] rfl ?_ ?_
                · (try simp only [go_sem, fb1, fb5]) <;> try rfl
                exact .e ⟨EqS.bo (or_t hc5), ⟨rfl⟩⟩
            · skip
              simp only [go_sem]
              refine AWp.cond _ rfl (fun hc7 => ?_) (fun hc7 => ?_)
              · skip
                try simp only [decide_eq_true_eq, decide_eq_false_iff_not, Bool.not_eq_true', Bool.not_eq_false', Bool.and_eq_true, Bool.or_eq_true, Bool.and_eq_false_iff, Bool.or_eq_false_iff, Int.not_lt, Int.not_le, beq_iff_eq, beq_eq_false_iff_ne, ne_eq, Bool.not_eq_true, Bool.not_eq_false] at hc7
                have e68 : inB t.kind 6 8 = true := by simp [inB]; omega
                have k9 : ¬ t.kind = 9 := by omega
                have k10 : ¬ t.kind = 10 := by omega
                refine AWp.rs fun K20 hK20 => ?_
                try simp only [go_sem, fb1, fb5]
                (repeat (with_reducible refine And.intro ?_ ?_; (first | omega | (intro _; omega) | decide | (exact nfB) | (intro hg; refine ⟨hg, ?_⟩; omega) | (simp; done) | (simp; omega))))
                refine hK20 _ _ ?_
                try clear hK20 K20
                refine AWp.mask [true, true, true, true] rfl ?_
                simp only [go_sem]
                refine AWp.seq fun K21 hK21 => ?_
                refine AWp.rs fun K22 hK22 => ?_
                try simp only [go_sem, fb1, fb5]
                (repeat (with_reducible refine And.intro ?_ ?_; (first | omega | (intro _; omega) | decide | (exact nfB) | (intro hg; refine ⟨hg, ?_⟩; omega) | (simp; done) | (simp; omega))))
                refine hK22 _ _ ?_
                try clear hK22 K22
                refine AWp.cond _ rfl (fun hc8 => ?_) (fun hc8 => ?_)
                · skip
                  try simp only [decide_eq_true_eq, decide_eq_false_iff_not, Bool.not_eq_true', Bool.not_eq_false', Bool.and_eq_true, Bool.or_eq_true, Bool.and_eq_false_iff, Bool.or_eq_false_iff, Int.not_lt, Int.not_le, beq_iff_eq, beq_eq_false_iff_ne, ne_eq, Bool.not_eq_true, Bool.not_eq_false] at hc8
                  refine AWp.rs fun K23 hK23 => ?_
                  try simp only [go_sem, fb1, fb5]
                  (repeat (with_reducible refine And.intro ?_ ?_; (first | omega | (intro _; omega) | decide | (exact nfB) | (intro hg; refine ⟨hg, ?_⟩; omega) | (simp; done) | (simp; omega))))
                  refine hK23 _ _ ?_
                  try clear hK23 K23
                  refine AWp.mask [true, true, true, true] rfl ?_
                  simp only [go_sem]
                  refine AWp.rk fun K24 hK24 => ?_
                  try simp only [go_sem, fb1, fb5]
                  (repeat (with_reducible refine And.intro ?_ ?_; (first | omega | (intro _; omega) | decide | (exact nfB) | (intro hg; refine ⟨hg, ?_⟩; omega) | (simp; done) | (simp; omega))))
                  refine hK24 _ _ ?_
                  try clear hK24 K24
                  refine thenQ_n ?_
                  refine hK21 _ _ ?_
                  try clear hK21 K21
                  refine AWp.tree true (.seg 0 (.seg 1 (.seg 2 (.seg 4 (.seg 6 (.many (.alt 3 (.many (.alt 5 (.seg 7 (.seg 8 (.seg 9 (.seg 10 (.seg 11 (.done)))))) (.alt 7 (.seg 8 (.many (.alt 5 (.seg 9 (.seg 10 (.seg 11 (.done)))) (.alt 9 (.seg 5 (.seg 10 (.seg 11 (.done)))) (.nil))))) (.nil)))) (.alt 5 (.many (.alt 3 (.seg 7 (.seg 8 (.seg 9 (.seg 10 (.seg 11 (.done)))))) (.alt 7 (.seg 3 (.seg 8 (.seg 9 (.seg 10 (.seg 11 (.done)))))) (.nil)))) (.alt 7 (.seg 3 (.seg 8 (.many (.alt 5 (.seg 9 (.seg 10 (.seg 11 (.done)))) (.alt 9 (.seg 5 (.seg 10 (.seg 11 (.done)))) (.nil)))))) (.nil)))))))))) rfl (by kernel_rfl) fun K25 hK25 => ?_
                  try simp only [go_sem, fb1, fb5]
                  (repeat (with_reducible refine And.intro ?_ ?_; (first | omega | (intro _; omega) | decide | (exact nfB) | (intro hg; refine ⟨hg, ?_⟩; omega) | (simp; done) | (simp; omega))))
                  refine hK25 _ _ ?_
                  try clear hK25 K25
                  refine blkQ_n (thenQ_n ?_)
                  refine EndS.mkr [true, true, true] [false, false, false, true] rfl ?_ ?_
                  · (try simp only [go_sem, fb1, fb5]) <;> try rfl
                  refine .w (([(6, .d (.bool (shB t)))])) (((⟨[(b5, ⟨8, 1, [[.d (.int .i64 t.kind), .d (.int .i64 (if (inB t.kind 6 8) then t.mat else 0)), .d (.int .i64 (if (inB t.kind 6 8 && !decide (t.kind = 6)) then t.part else 0)), .d (.slc 1 ((if (inB t.kind 6 8 || decide (t.kind = 9)) then t.names else []).map strD)), .d (.slc 1 ((if (inB t.kind 6 8) then t.keys else []).map strD)), .d (.bool (decide (t.kind = 10) && t.over)), .d (.int .i64 (if t.kind = 10 then t.limit else 0)), .nils]]⟩), (b1, ⟨8, 1, [tstA t]⟩)], []⟩ : AH).objs)) ?_ ?_ ⟨⟨rfl⟩, ⟨rfl⟩⟩
                  · simp only [go_sem, LeSl, fb1, fb5] <;> (first | (simp [shB, kl, hc0, hc1, hc4, e35, hc7, e68, k9, k10, hc8]; done) | (simp [shB, inB, kl, hc0, hc1, hc4, e35, hc7, e68, k9, k10, hc8]; done) | (simp [shB, inB, kl, hc0, hc1, hc4, e35, hc7, e68, k9, k10, hc8] <;> omega) | (simp [shB, kl, hc0, hc1, hc4, e35, hc7, e68, k9, k10, hc8] <;> grind))
                  · simp only [go_sem, fb1, fb5] <;> (first | (simp [kl, hc0, hc1, hc4, e35, hc7, e68, k9, k10, hc8]; done) | (simp [inB, kl, hc0, hc1, hc4, e35, hc7, e68, k9, k10, hc8]; done) | (simp [inB, kl, hc0, hc1, hc4, e35, hc7, e68, k9, k10, hc8] <;> omega) | (simp [kl, hc0, hc1, hc4, e35, hc7, e68, k9, k10, hc8] <;> grind))
                · skip
                  try simp only [decide_eq_true_eq, decide_eq_false_iff_not, Bool.not_eq_true', Bool.not_eq_false', Bool.and_eq_true, Bool.or_eq_true, Bool.and_eq_false_iff, Bool.or_eq_false_iff, Int.not_lt, Int.not_le, beq_iff_eq, beq_eq_false_iff_ne, ne_eq, Bool.not_eq_true, Bool.not_eq_false] at hc8
                  refine AWp.skip ?_
                  refine thenQ_n ?_
                  refine hK21 _ _ ?_
                  try clear hK21 K21
                  refine AWp.tree true (.seg 0 (.seg 1 (.seg 2 (.seg 4 (.seg 6 (.many (.alt 3 (.many (.alt 5 (.seg 7 (.seg 8 (.seg 9 (.seg 10 (.seg 11 (.done)))))) (.alt 7 (.seg 8 (.many (.alt 5 (.seg 9 (.seg 10 (.seg 11 (.done)))) (.alt 9 (.seg 5 (.seg 10 (.seg 11 (.done)))) (.nil))))) (.nil)))) (.alt 5 (.many (.alt 3 (.seg 7 (.seg 8 (.seg 9 (.seg 10 (.seg 11 (.done)))))) (.alt 7 (.seg 3 (.seg 8 (.seg 9 (.seg 10 (.seg 11 (.done)))))) (.nil)))) (.alt 7 (.seg 3 (.seg 8 (.many (.alt 5 (.seg 9 (.seg 10 (.seg 11 (.done)))) (.alt 9 (.seg 5 (.seg 10 (.seg 11 (.done)))) (.nil)))))) (.nil)))))))))) rfl (by kernel_rfl) fun K26 hK26 => ?_
                  try simp only [go_sem, fb1, fb5]
                  (repeat (with_reducible refine And.intro ?_ ?_; (first | omega | (intro _; omega) | decide | (exact nfB) | (intro hg; refine ⟨hg, ?_⟩; omega) | (simp; done) | (simp; omega))))
                  refine hK26 _ _ ?_
                  try clear hK26 K26
                  refine blkQ_n (thenQ_n ?_)
                  refine EndS.mkr [true, true, true] [false, false, false, true] rfl ?_ ?_
                  · (try simp only [go_sem, fb1, fb5]) <;> try rfl
                  refine .w (([(6, .d (.bool (shB t)))])) (((⟨[(b5, ⟨8, 1, [[.d (.int .i64 t.kind), .d (.int .i64 (if (inB t.kind 6 8) then t.mat else 0)), .d (.int .i64 (if (inB t.kind 6 8 && !decide (t.kind = 6)) then t.part else 0)), .d (.slc 1 ((if (inB t.kind 6 8 || decide (t.kind = 9)) then t.names else []).map strD)), .d (.slc 1 ((if (inB t.kind 6 8) then t.keys else []).map strD)), .d (.bool (decide (t.kind = 10) && t.over)), .d (.int .i64 (if t.kind = 10 then t.limit else 0)), .nils]]⟩), (b1, ⟨8, 1, [tstA t]⟩)], []⟩ : AH).objs)) ?_ ?_ ⟨⟨rfl⟩, ⟨rfl⟩⟩
                  · simp only [go_sem, LeSl, fb1, fb5] <;> (first | (simp [shB, kl, hc0, hc1, hc4, e35, hc7, e68, k9, k10, hc8]; done) | (simp [shB, inB, kl, hc0, hc1, hc4, e35, hc7, e68, k9, k10, hc8]; done) | (simp [shB, inB, kl, hc0, hc1, hc4, e35, hc7, e68, k9, k10, hc8] <;> omega) | (simp [shB, kl, hc0, hc1, hc4, e35, hc7, e68, k9, k10, hc8] <;> grind))
                  · simp only [go_sem, fb1, fb5] <;> (first | (simp [kl, hc0, hc1, hc4, e35, hc7, e68, k9, k10, hc8]; done) | (simp [inB, kl, hc0, hc1, hc4, e35, hc7, e68, k9, k10, hc8]; done) | (simp [inB, kl, hc0, hc1, hc4, e35, hc7, e68, k9, k10, hc8] <;> omega) | (simp [kl, hc0, hc1, hc4, e35, hc7, e68, k9, k10, hc8] <;> grind))
              · skip
                try simp only [decide_eq_true_eq, decide_eq_false_iff_not, Bool.not_eq_true', Bool.not_eq_false', Bool.and_eq_true, Bool.or_eq_true, Bool.and_eq_false_iff, Bool.or_eq_false_iff, Int.not_lt, Int.not_le, beq_iff_eq, beq_eq_false_iff_ne, ne_eq, Bool.not_eq_true, Bool.not_eq_false] at hc7
                have e68 : inB t.kind 6 8 = false := by simp [inB]; omega
                refine AWp.rs fun K27 hK27 => ?_
                try simp only [go_sem, fb1, fb5]
                (repeat (with_reducible refine And.intro ?_ ?_; (first | omega | (intro _; omega) | decide | (exact nfB) | (intro hg; refine ⟨hg, ?_⟩; omega) | (simp; done) | (simp; omega))))
                refine hK27 _ _ ?_
                try clear hK27 K27
                refine AWp.cond _ rfl (fun hc9 => ?_) (fun hc9 => ?_)
                · skip
                  try simp only [decide_eq_true_eq, decide_eq_false_iff_not, Bool.not_eq_true', Bool.not_eq_false', Bool.and_eq_true, Bool.or_eq_true, Bool.and_eq_false_iff, Bool.or_eq_false_iff, Int.not_lt, Int.not_le, beq_iff_eq, beq_eq_false_iff_ne, ne_eq, Bool.not_eq_true, Bool.not_eq_false] at hc9
                  refine AWp.rs fun K28 hK28 => ?_
                  try simp only [go_sem, fb1, fb5]
                  (repeat (with_reducible refine And.intro ?_ ?_; (first | omega | (intro _; omega) | decide | (exact nfB) | (intro hg; refine ⟨hg, ?_⟩; omega) | (simp; done) | (simp; omega))))
                  refine hK28 _ _ ?_
                  try clear hK28 K28
                  refine AWp.mask [true, true, true, true] rfl ?_
                  simp only [go_sem]
                  refine AWp.rk fun K29 hK29 => ?_
                  try simp only [go_sem, fb1, fb5]
                  (repeat (with_reducible refine And.intro ?_ ?_; (first | omega | (intro _; omega) | decide | (exact nfB) | (intro hg; refine ⟨hg, ?_⟩; omega) | (simp; done) | (simp; omega))))
                  refine hK29 _ _ ?_
                  try clear hK29 K29
                  refine blkQ_n (thenQ_n ?_)
                  refine EndS.mkr [true, true, true] [false, false, false, true] rfl ?_ ?_
                  · (try simp only [go_sem, fb1, fb5]) <;> try rfl
                  refine .w (([(6, .d (.bool (shB t)))])) (((⟨[(b5, ⟨8, 1, [[.d (.int .i64 t.kind), .d (.int .i64 (if (inB t.kind 6 8) then t.mat else 0)), .d (.int .i64 (if (inB t.kind 6 8 && !decide (t.kind = 6)) then t.part else 0)), .d (.slc 1 ((if (inB t.kind 6 8 || decide (t.kind = 9)) then t.names else []).map strD)), .d (.slc 1 ((if (inB t.kind 6 8) then t.keys else []).map strD)), .d (.bool (decide (t.kind = 10) && t.over)), .d (.int .i64 (if t.kind = 10 then t.limit else 0)), .nils]]⟩), (b1, ⟨8, 1, [tstA t]⟩)], []⟩ : AH).objs)) ?_ ?_ ⟨⟨rfl⟩, ⟨rfl⟩⟩
                  · simp only [go_sem, LeSl, fb1, fb5] <;> (first | (simp [shB, kl, hc0, hc1, hc4, e35, hc7, e68, hc9]; done) | (simp [shB, inB, kl, hc0, hc1, hc4, e35, hc7, e68, hc9]; done) | (simp [shB, inB, kl, hc0, hc1, hc4, e35, hc7, e68, hc9] <;> omega) | (simp [shB, kl, hc0, hc1, hc4, e35, hc7, e68, hc9] <;> grind))
                  · simp only [go_sem, fb1, fb5] <;> (first | (simp [kl, hc0, hc1, hc4, e35, hc7, e68, hc9]; done) | (simp [inB, kl, hc0, hc1, hc4, e35, hc7, e68, hc9]; done) | (simp [inB, kl, hc0, hc1, hc4, e35, hc7, e68, hc9] <;> omega) | (simp [kl, hc0, hc1, hc4, e35, hc7, e68, hc9] <;> grind))
                · skip
                  try simp only [decide_eq_true_eq, decide_eq_false_iff_not, Bool.not_eq_true', Bool.not_eq_false', Bool.and_eq_true, Bool.or_eq_true, Bool.and_eq_false_iff, Bool.or_eq_false_iff, Int.not_lt, Int.not_le, beq_iff_eq, beq_eq_false_iff_ne, ne_eq, Bool.not_eq_true, Bool.not_eq_false] at hc9
                  refine AWp.rs fun K30 hK30 => ?_
                  try simp only [go_sem, fb1, fb5]
                  (repeat (with_reducible refine And.intro ?_ ?_; (first | omega | (intro _; omega) | decide | (exact nfB) | (intro hg; refine ⟨hg, ?_⟩; omega) | (simp; done) | (simp; omega))))
                  refine hK30 _ _ ?_
                  try clear hK30 K30
                  refine AWp.mask [true, true, true, true, false, false, false, false, true] rfl ?_
                  simp only [go_sem]
                  refine AWp.cond _ rfl (fun hc10 => ?_) (fun hc10 => ?_)
                  · skip
                    try simp only [decide_eq_true_eq, decide_eq_false_iff_not, Bool.not_eq_true', Bool.not_eq_false', Bool.and_eq_true, Bool.or_eq_true, Bool.and_eq_false_iff, Bool.or_eq_false_iff, Int.not_lt, Int.not_le, beq_iff_eq, beq_eq_false_iff_ne, ne_eq, Bool.not_eq_true, Bool.not_eq_false] at hc10
                    refine AWp.rs fun K31 hK31 => ?_
                    try simp only [go_sem, fb1, fb5]
                    (repeat (with_reducible refine And.intro ?_ ?_; (first | omega | (intro _; omega) | decide | (exact nfB) | (intro hg; refine ⟨hg, ?_⟩; omega) | (simp; done) | (simp; omega))))
                    refine hK31 _ _ ?_
                    try clear hK31 K31
                    refine AWp.mask [true, true, true, true] rfl ?_
                    simp only [go_sem]
                    refine AWp.tree true (.seg 0 (.seg 1 (.seg 2 (.seg 4 (.many (.alt 3 (.seg 5 (.seg 6 (.seg 7 (.done)))) (.alt 5 (.seg 3 (.seg 6 (.seg 7 (.done)))) (.nil)))))))) rfl (by kernel_rfl) fun K32 hK32 => ?_
                    try simp only [go_sem, fb1, fb5]
                    (repeat (with_reducible refine And.intro ?_ ?_; (first | omega | (intro _; omega) | decide | (exact nfB) | (intro hg; refine ⟨hg, ?_⟩; omega) | (simp; done) | (simp; omega))))
                    refine hK32 _ _ ?_
                    try clear hK32 K32
                    refine blkQ_n (thenQ_n ?_)
                    refine EndS.mkr [true, true, true] [false, false, false, true] rfl ?_ ?_
                    · (try simp only [go_sem, fb1, fb5]) <;> try rfl
                    refine .w (([(6, .d (.bool (shB t)))])) (((⟨[(b5, ⟨8, 1, [[.d (.int .i64 t.kind), .d (.int .i64 (if (inB t.kind 6 8) then t.mat else 0)), .d (.int .i64 (if (inB t.kind 6 8 && !decide (t.kind = 6)) then t.part else 0)), .d (.slc 1 ((if (inB t.kind 6 8 || decide (t.kind = 9)) then t.names else []).map strD)), .d (.slc 1 ((if (inB t.kind 6 8) then t.keys else []).map strD)), .d (.bool (decide (t.kind = 10) && t.over)), .d (.int .i64 (if t.kind = 10 then t.limit else 0)), .nils]]⟩), (b1, ⟨8, 1, [tstA t]⟩)], []⟩ : AH).objs)) ?_ ?_ ⟨⟨rfl⟩, ⟨rfl⟩⟩
                    · simp only [go_sem, LeSl, fb1, fb5] <;> (first | (simp [shB, kl, hc0, hc1, hc4, e35, hc7, e68, hc9, hc10]; done) | (simp [shB, inB, kl, hc0, hc1, hc4, e35, hc7, e68, hc9, hc10]; done) | (simp [shB, inB, kl, hc0, hc1, hc4, e35, hc7, e68, hc9, hc10] <;> omega) | (simp [shB, kl, hc0, hc1, hc4, e35, hc7, e68, hc9, hc10] <;> grind))
                    · simp only [go_sem, fb1, fb5] <;> (first | (simp [kl, hc0, hc1, hc4, e35, hc7, e68, hc9, hc10]; done) | (simp [inB, kl, hc0, hc1, hc4, e35, hc7, e68, hc9, hc10]; done) | (simp [inB, kl, hc0, hc1, hc4, e35, hc7, e68, hc9, hc10] <;> omega) | (simp [kl, hc0, hc1, hc4, e35, hc7, e68, hc9, hc10] <;> grind))
                  · skip
                    try simp only [decide_eq_true_eq, decide_eq_false_iff_not, Bool.not_eq_true', Bool.not_eq_false', Bool.and_eq_true, Bool.or_eq_true, Bool.and_eq_false_iff, Bool.or_eq_false_iff, Int.not_lt, Int.not_le, beq_iff_eq, beq_eq_false_iff_ne, ne_eq, Bool.not_eq_true, Bool.not_eq_false] at hc10
                    refine AWp.skip ?_
                    refine blkQ_n (thenQ_n ?_)
                    refine EndS.mkr [true, true, true] [false, false, false, true] rfl ?_ ?_
                    · (try simp only [go_sem, fb1, fb5]) <;> try rfl
                    refine .w (([(6, .d (.bool (shB t)))])) (((⟨[(b5, ⟨8, 1, [[.d (.int .i64 t.kind), .d (.int .i64 (if (inB t.kind 6 8) then t.mat else 0)), .d (.int .i64 (if (inB t.kind 6 8 && !decide (t.kind = 6)) then t.part else 0)), .d (.slc 1 ((if (inB t.kind 6 8 || decide (t.kind = 9)) then t.names else []).map strD)), .d (.slc 1 ((if (inB t.kind 6 8) then t.keys else []).map strD)), .d (.bool (decide (t.kind = 10) && t.over)), .d (.int .i64 (if t.kind = 10 then t.limit else 0)), .nils]]⟩), (b1, ⟨8, 1, [tstA t]⟩)], []⟩ : AH).objs)) ?_ ?_ ⟨⟨rfl⟩, ⟨rfl⟩⟩
                    · simp only [go_sem, LeSl, fb1, fb5] <;> (first | (simp [shB, kl, hc0, hc1, hc4, e35, hc7, e68, hc9, hc10]; done) | (simp [shB, inB, kl, hc0, hc1, hc4, e35, hc7, e68, hc9, hc10]; done) | (simp [shB, inB, kl, hc0, hc1, hc4, e35, hc7, e68, hc9, hc10] <;> omega) | (simp [shB, kl, hc0, hc1, hc4, e35, hc7, e68, hc9, hc10] <;> grind))
                    · simp only [go_sem, fb1, fb5] <;> (first | (simp [kl, hc0, hc1, hc4, e35, hc7, e68, hc9, hc10]; done) | (simp [inB, kl, hc0, hc1, hc4, e35, hc7, e68, hc9, hc10]; done) | (simp [inB, kl, hc0, hc1, hc4, e35, hc7, e68, hc9, hc10] <;> omega) | (simp [kl, hc0, hc1, hc4, e35, hc7, e68, hc9, hc10] <;> grind))
      · rintro _ _ ⟨⟨rfl⟩, ⟨rfl⟩⟩
        simp only [go_sem]
        refine AWp.joinS [true, true] (fun lc hc => EqS lc [(6, .d (.bool (eqB t)))] ∧ EqS hc (⟨[(b1, ⟨8, 1, [tstA t]⟩)], []⟩)) ?_ ?_
        · skip
          refine AWp.rs fun K33 hK33 => ?_
          try simp only [go_sem, fb1, fb5]
          (repeat (with_reducible refine And.intro ?_ ?_; (first | omega | (intro _; omega) | decide | (exact nfB) | (intro hg; refine ⟨hg, ?_⟩; omega) | (simp; done) | (simp; omega))))
          refine hK33 _ _ ?_
          try clear hK33 K33
          refine AWp.mask [true, true, false, true, false, false, false, false, false, false, false, false, false, false, false, false, false, false, false, false, false, false, false, false, false, false, false, false, false, false, false, false, false, false, false, false, false, false, false, false, false, false, false, false, false, false, false, true] rfl ?_
          simp only [go_sem]
          refine AWp.cond _ rfl (fun hc11 => ?_) (fun hc11 => ?_)
          · skip
            try simp only [decide_eq_true_eq, decide_eq_false_iff_not, Bool.not_eq_true', Bool.not_eq_false', Bool.and_eq_true, Bool.or_eq_true, Bool.and_eq_false_iff, Bool.or_eq_false_iff, Int.not_lt, Int.not_le, beq_iff_eq, beq_eq_false_iff_ne, ne_eq, Bool.not_eq_true, Bool.not_eq_false] at hc11
            have hne : neP t := by unfold neP; simpa using hc11
            refine AWp.rk fun K34 hK34 => ?_
            try simp only [go_sem, fb1, fb5]
            (repeat (with_reducible refine And.intro ?_ ?_; (first | omega | (intro _; omega) | decide | (exact nfB) | (intro hg; refine ⟨hg, ?_⟩; omega) | (simp; done) | (simp; omega))))
            refine hK34 _ _ ?_
            try clear hK34 K34
            refine thenQ_n ?_
            refine EndS.mk [true, true] [false, false, true] [b5] [] [] [] rfl ?_ ?_
            · (try simp only [go_sem, fb1, fb5]) <;> try rfl
            refine .e ⟨?_, ?_⟩
            · (try simp only [go_sem, fb1, fb5]) <;> first | exact ⟨rfl⟩ | (constructor; first | (rw [eqB_t t hne]; done) | (rw [eqB_f t hne]; done))
            · (try simp only [go_sem, fb1, fb5]) <;> first | exact ⟨rfl⟩ | (constructor; skip)
          · skip
            try simp only [decide_eq_true_eq, decide_eq_false_iff_not, Bool.not_eq_true', Bool.not_eq_false', Bool.and_eq_true, Bool.or_eq_true, Bool.and_eq_false_iff, Bool.or_eq_false_iff, Int.not_lt, Int.not_le, beq_iff_eq, beq_eq_false_iff_ne, ne_eq, Bool.not_eq_true, Bool.not_eq_false] at hc11
            have hne : ¬ neP t := by unfold neP; simpa using hc11
            refine AWp.skip ?_
            refine thenQ_n ?_
            refine EndS.mk [true, true] [false, false, true] [b5] [] [] [] rfl ?_ ?_
            · (try simp only [go_sem, fb1, fb5]) <;> try rfl
            refine .e ⟨?_, ?_⟩
            · (try simp only [go_sem, fb1, fb5]) <;> first | exact ⟨rfl⟩ | (constructor; first | (rw [eqB_t t hne]; done) | (rw [eqB_f t hne]; done))
            · (try simp only [go_sem, fb1, fb5]) <;> first | exact ⟨rfl⟩ | (constructor; skip)
        · rintro _ _ ⟨⟨rfl⟩, ⟨rfl⟩⟩
          simp only [go_sem]
          refine AWp.joinS [true, true] (fun lc hc => EqS lc [(6, .d (.bool (eqB t && (inB t.kind 3 5 || decide (t.kids.length = 0)))))] ∧ EqS hc (⟨[(b1, ⟨8, 1, [tstA t]⟩)], []⟩)) ?_ ?_
          · skip
            refine AWp.rs fun K35 hK35 => ?_
            try simp only [go_sem, fb1, fb5]
            (repeat (with_reducible refine And.intro ?_ ?_; (first | omega | (intro _; omega) | decide | (exact nfB) | (intro hg; refine ⟨hg, ?_⟩; omega) | (simp; done) | (simp; omega))))
            refine hK35 _ _ ?_
            try clear hK35 K35
            refine AWp.mask [true, true, true, false, false, false, false, false, false, false, true] rfl ?_
            simp only [go_sem]
            refine AWp.cond _ rfl (fun hc12 => ?_) (fun hc12 => ?_)
            · skip
              try simp only [decide_eq_true_eq, decide_eq_false_iff_not, Bool.not_eq_true', Bool.not_eq_false', Bool.and_eq_true, Bool.or_eq_true, Bool.and_eq_false_iff, Bool.or_eq_false_iff, Int.not_lt, Int.not_le, beq_iff_eq, beq_eq_false_iff_ne, ne_eq, Bool.not_eq_true, Bool.not_eq_false] at hc12
              have e35 : inB t.kind 3 5 = false := by simp [inB]; omega
              refine AWp.rk fun K36 hK36 => ?_
              try simp only [go_sem, fb1, fb5]
              (repeat (with_reducible refine And.intro ?_ ?_; (first | omega | (intro _; omega) | decide | (exact nfB) | (intro hg; refine ⟨hg, ?_⟩; omega) | (simp; done) | (simp; omega))))
              refine hK36 _ _ ?_
              try clear hK36 K36
              refine thenQ_n ?_
              refine EndS.mkr [true, true] [false, false, true] rfl ?_ ?_
              · (try simp only [go_sem, fb1, fb5]) <;> try rfl
              refine .e ⟨?_, ?_⟩
              · (try simp only [go_sem, fb1, fb5]) <;> first | exact ⟨rfl⟩ | (constructor; simp [e35])
              · (try simp only [go_sem, fb1, fb5]) <;> first | exact ⟨rfl⟩ | (constructor; grind)
            · skip
              try simp only [decide_eq_true_eq, decide_eq_false_iff_not, Bool.not_eq_true', Bool.not_eq_false', Bool.and_eq_true, Bool.or_eq_true, Bool.and_eq_false_iff, Bool.or_eq_false_iff, Int.not_lt, Int.not_le, beq_iff_eq, beq_eq_false_iff_ne, ne_eq, Bool.not_eq_true, Bool.not_eq_false] at hc12
              have e35 : inB t.kind 3 5 = true := by simp [inB]; omega
              refine AWp.skip ?_
              refine thenQ_n ?_
              refine EndS.mkr [true, true] [false, false, true] rfl ?_ ?_
              · (try simp only [go_sem, fb1, fb5]) <;> try rfl
              refine .e ⟨?_, ?_⟩
              · (try simp only [go_sem, fb1, fb5]) <;> first | exact ⟨rfl⟩ | (constructor; simp [e35])
              · (try simp only [go_sem, fb1, fb5]) <;> first | exact ⟨rfl⟩ | (constructor; grind)
          · rintro _ _ ⟨⟨rfl⟩, ⟨rfl⟩⟩
            rw [eqB_ok t hk]
            simp only [go_sem]
            refine AWp.seq fun K37 hK37 => ?_
            refine AWp.rs fun K38 hK38 => ?_
            try simp only [go_sem, fb1, fb5]
            (repeat (with_reducible refine And.intro ?_ ?_; (first | omega | (intro _; omega) | decide | (exact nfB) | (intro hg; refine ⟨hg, ?_⟩; omega) | (simp; done) | (simp; omega))))
            refine hK38 _ _ ?_
            try clear hK38 K38
            refine AWp.cond _ rfl (fun hc13 => ?_) (fun hc13 => ?_)
            · skip
              try simp only [decide_eq_true_eq, decide_eq_false_iff_not, Bool.not_eq_true', Bool.not_eq_false', Bool.and_eq_true, Bool.or_eq_true, Bool.and_eq_false_iff, Bool.or_eq_false_iff, Int.not_lt, Int.not_le, beq_iff_eq, beq_eq_false_iff_ne, ne_eq, Bool.not_eq_true, Bool.not_eq_false] at hc13
              refine AWp.rs fun K39 hK39 => ?_
              try simp only [go_sem, fb1, fb5]
              (repeat (with_reducible refine And.intro ?_ ?_; (first | omega | (intro _; omega) | decide | (exact nfB) | (intro hg; refine ⟨hg, ?_⟩; omega) | (simp; done) | (simp; omega))))
              refine hK39 _ _ ?_
              try clear hK39 K39
              refine AWp.mask [false, false, true] rfl ?_
              simp only [go_sem]
              refine AWp.ret ?_
              try simp only [go_sem, fb1, fb5]
              rw [tF_shape _ _ hk hd6 hc13]
            · skip
              try simp only [decide_eq_true_eq, decide_eq_false_iff_not, Bool.not_eq_true', Bool.not_eq_false', Bool.and_eq_true, Bool.or_eq_true, Bool.and_eq_false_iff, Bool.or_eq_false_iff, Int.not_lt, Int.not_le, beq_iff_eq, beq_eq_false_iff_ne, ne_eq, Bool.not_eq_true, Bool.not_eq_false] at hc13
              have h0 := tF_kids _ _ hk hd6 hc13
              refine AWp.skip ?_
              refine thenQ_n ?_
              refine hK37 _ _ ?_
              try clear hK37 K37
              refine AWp.seq fun K40 hK40 => ?_
              refine AWp.rs fun K41 hK41 => ?_
              try simp only [go_sem, fb1, fb5]
              (repeat (with_reducible refine And.intro ?_ ?_; (first | omega | (intro _; omega) | decide | (exact nfB) | (intro hg; refine ⟨hg, ?_⟩; omega) | (simp; done) | (simp; omega))))
              refine hK41 _ _ ?_
              try clear hK41 K41
              refine AWp.mask [true, false, false, false, false, false, true, true, true] rfl ?_
              simp only [go_sem]
              refine AWp.block ?_
              refine AWp.loopS [true, true, true] [false, false, false, true] (fun n lc hc => ∃ (k : Nat), n = t.kids.length - k ∧ EqS lc [(183, .d (.int .i64 k))] ∧ EqS hc (⟨[(b1, ⟨8, 1, [tstA t]⟩)], []⟩) ∧ (k ≤ t.kids.length) ∧ (tF t d = tFL (t.kids.drop k) (d + 1))) rfl ?_ ?_
              · refine ⟨_, 0, rfl, ?_, ?_, ?_, ?_⟩
                · (try simp only [go_sem, fb1, fb5]) <;> first | exact ⟨rfl⟩ | (constructor; simp; done)
                · (try simp only [go_sem, fb1, fb5]) <;> first | exact ⟨rfl⟩ | (constructor; simp; done)
                all_goals (first | omega | exact h0)
              · rintro _ _ _ ⟨k, rfl, ⟨rfl⟩, ⟨rfl⟩, hk0, htf⟩
                simp only [go_sem]
                refine AWp.rs fun K42 hK42 => ?_
                try simp only [go_sem, fb1, fb5]
                (repeat (with_reducible refine And.intro ?_ ?_; (first | omega | (intro _; omega) | decide | (exact nfB) | (intro hg; refine ⟨hg, ?_⟩; omega) | (simp; done) | (simp; omega))))
                refine hK42 _ _ ?_
                try clear hK42 K42
                refine AWp.seq fun K43 hK43 => ?_
                refine AWp.cond _ rfl (fun hc14 => ?_) (fun hc14 => ?_)
                · skip
                  try simp only [decide_eq_true_eq, decide_eq_false_iff_not, Bool.not_eq_true', Bool.not_eq_false', Bool.and_eq_true, Bool.or_eq_true, Bool.and_eq_false_iff, Bool.or_eq_false_iff, Int.not_lt, Int.not_le, beq_iff_eq, beq_eq_false_iff_ne, ne_eq, Bool.not_eq_true, Bool.not_eq_false] at hc14
                  have hlt : k < t.kids.length := by omega
                  refine AWp.skip ?_
                  refine thenQ_n ?_
                  refine hK43 _ _ ?_
                  try clear hK43 K43
                  refine AWp.seq fun K44 hK44 => ?_
                  refine AWp.block ?_
                  refine AWp.rs fun K45 hK45 => ?_
                  try simp only [go_sem, fb1, fb5, kidsD_get t k _ hlt]
                  (repeat (with_reducible refine And.intro ?_ ?_; (first | omega | (intro _; omega) | decide | (exact nfB) | (intro hg; refine ⟨hg, ?_⟩; omega) | (simp; done) | (simp; omega))))
                  intro b46 fb46
                  try simp only [freshL] at fb46
                  try simp only [go_sem, fb1, fb5, kidsD_get t k _ hlt, fb46]
                  (repeat (with_reducible refine And.intro ?_ ?_; (first | omega | (intro _; omega) | decide | (exact nfB) | (intro hg; refine ⟨hg, ?_⟩; omega) | (simp; done) | (simp; omega))))
                  refine hK45 _ _ ?_
                  try clear hK45 K45
                  refine AWp.rs fun K47 hK47 => ?_
                  try simp only [go_sem, fb1, fb5, kidsD_get t k _ hlt, fb46]
                  (repeat (with_reducible refine And.intro ?_ ?_; (first | omega | (intro _; omega) | decide | (exact nfB) | (intro hg; refine ⟨hg, ?_⟩; omega) | (simp; done) | (simp; omega))))
                  refine DW.pcr rfl rfl rfl rfl (ih _ (List.getElem_mem hlt) _ (by omega) (by omega)) rfl rfl ?_
                  try simp only [go_sem, fb1, fb5, kidsD_get t k _ hlt, fb46]
                  (repeat (with_reducible refine And.intro ?_ ?_; (first | omega | (intro _; omega) | decide | (exact nfB) | (intro hg; refine ⟨hg, ?_⟩; omega) | (simp; done) | (simp; omega))))
                  refine hK47 _ _ ?_
                  try clear hK47 K47
                  refine AWp.mask [true, false, true, true, true, true] rfl ?_
                  simp only [go_sem]
                  refine AWp.rs fun K48 hK48 => ?_
                  try simp only [go_sem, fb1, fb5, kidsD_get t k _ hlt, fb46]
                  (repeat (with_reducible refine And.intro ?_ ?_; (first | omega | (intro _; omega) | decide | (exact nfB) | (intro hg; refine ⟨hg, ?_⟩; omega) | (simp; done) | (simp; omega))))
                  refine hK48 _ _ ?_
                  try clear hK48 K48
                  refine AWp.cond _ rfl (fun hc15 => ?_) (fun hc15 => ?_)
                  · skip
                    try simp only [decide_eq_true_eq, decide_eq_false_iff_not, Bool.not_eq_true', Bool.not_eq_false', Bool.and_eq_true, Bool.or_eq_true, Bool.and_eq_false_iff, Bool.or_eq_false_iff, Int.not_lt, Int.not_le, beq_iff_eq, beq_eq_false_iff_ne, ne_eq, Bool.not_eq_true, Bool.not_eq_false] at hc15
                    refine AWp.rs fun K49 hK49 => ?_
                    try simp only [go_sem, fb1, fb5, kidsD_get t k _ hlt, fb46]
                    (repeat (with_reducible refine And.intro ?_ ?_; (first | omega | (intro _; omega) | decide | (exact nfB) | (intro hg; refine ⟨hg, ?_⟩; omega) | (simp; done) | (simp; omega))))
                    refine hK49 _ _ ?_
                    try clear hK49 K49
                    refine AWp.mask [false, true] rfl ?_
                    simp only [go_sem]
                    refine AWp.ret ?_
                    try simp only [go_sem, fb1, fb5, kidsD_get t k _ hlt, fb46]
                    rw [htf, tFL_drop _ _ _ hlt, if_neg hc15]
                  · skip
                    try simp only [decide_eq_true_eq, decide_eq_false_iff_not, Bool.not_eq_true', Bool.not_eq_false', Bool.and_eq_true, Bool.or_eq_true, Bool.and_eq_false_iff, Bool.or_eq_false_iff, Int.not_lt, Int.not_le, beq_iff_eq, beq_eq_false_iff_ne, ne_eq, Bool.not_eq_true, Bool.not_eq_false] at hc15
                    refine AWp.skip ?_
                    refine blkQ_n (thenQ_n ?_)
                    refine hK44 _ _ ?_
                    try clear hK44 K44
                    refine AWp.rk fun K50 hK50 => ?_
                    try simp only [go_sem, fb1, fb5, kidsD_get t k _ hlt, fb46]
                    (repeat (with_reducible refine And.intro ?_ ?_; (first | omega | (intro _; omega) | decide | (exact nfB) | (intro hg; refine ⟨hg, ?_⟩; omega) | (simp; done) | (simp; omega))))
                    refine hK50 _ _ ?_
                    try clear hK50 K50
                    refine thenQ_n ?_
                    refine EndS.mk [true, false, true, true] [false, false, false, false, true] [b46] [] [] [] rfl ?_ ?_
                    · (try simp only [go_sem, fb1, fb5, kidsD_get t k _ hlt, fb46]) <;> try rfl
                    refine .e ⟨_, ?_, k + 1, rfl, ?_, ?_, ?_, ?_⟩
                    · first | omega | (simp; omega) | (grind)
                    · (try simp only [go_sem, fb1, fb5, kidsD_get t k _ hlt, fb46]) <;> first | exact ⟨rfl⟩ | (constructor; simp; done)
                    · (try simp only [go_sem, fb1, fb5, kidsD_get t k _ hlt, fb46]) <;> first | exact ⟨rfl⟩ | (constructor; simp; done)
                    · omega
                    · rw [htf, tFL_drop _ _ _ hlt, if_pos hc15]
                · skip
                  try simp only [decide_eq_true_eq, decide_eq_false_iff_not, Bool.not_eq_true', Bool.not_eq_false', Bool.and_eq_true, Bool.or_eq_true, Bool.and_eq_false_iff, Bool.or_eq_false_iff, Int.not_lt, Int.not_le, beq_iff_eq, beq_eq_false_iff_ne, ne_eq, Bool.not_eq_true, Bool.not_eq_false] at hc14
                  refine AWp.exit ?_
                  refine thenQ_e (thenQ_e (blkQ_e (thenQ_n ?_)))
                  refine hK40 _ _ ?_
                  try clear hK40 K40
                  refine AWp.mask [] rfl ?_
                  simp only [go_sem]
                  refine AWp.rs fun K51 hK51 => ?_
                  try simp only [go_sem, fb1, fb5]
                  (repeat (with_reducible refine And.intro ?_ ?_; (first | omega | (intro _; omega) | decide | (exact nfB) | (intro hg; refine ⟨hg, ?_⟩; omega) | (simp; done) | (simp; omega))))
                  refine hK51 _ _ ?_
                  try clear hK51 K51
                  refine AWp.ret ?_
                  try simp only [go_sem, fb1, fb5]
                  have : t.kids.drop k = [] := List.drop_eq_nil_of_le (by omega)
                  rw [htf, this, tFL]
end Go.Proofs.YtnoboapafndnlaaDoor

/- How commands are shown. -/
import Derived.Test.YtnoboapafndnlaaDoorShn
namespace Go.Proofs.YtnoboapafndnlaaDoor
set_option linter.unusedSimpArgs false
set_option linter.unusedVariables false
set_option maxRecDepth 4000 in
set_option maxHeartbeats 1000000 in
theorem restShown_step (T : Tbl) (c : Cmd) (ok : c.Ok) (d : Int) (hF : cF c d = 0) (hl : (cmT c).length ≤ 4398046511104) (i1 : c.kind = 2 → PC Tryd.prog T 59 [.d (.slc 12 (thnD c))] (.d (.slc 3 (toksD (lsT c.thn))))) (i2 : c.kind = 2 → elsifC c = false → 0 < c.els.length → PC Tryd.prog T 59 [.d (.slc 12 (elsD c))] (.d (.slc 3 (toksD (lsT c.els))))) (i3 : c.kind = 2 → elsifC c = true → ∀ h : 0 < c.els.length, PC Tryd.prog T 115 [.agg (cmdA (c.els[0]'h))] (.d (.slc 3 (toksD (cmT (c.els[0]'h)))))) : PC Tryd.prog T 115 [.agg (cmdA c)] (.d (.slc 3 (toksD (cmT c)))) := by
  refine ⟨Tryd.call115, PCall.enterS Tryd.func115 rfl Tryd.ntmps115 rfl fun hb => ?_⟩
  obtain ⟨s1, s2, s3, s4, s5, s6⟩ := ok.inv
  obtain ⟨hk, hok, _⟩ := cF_ok hF
  simp only [go_sem, Tryd.results115]
  refine AWp.rs fun K1 hK1 => ?_
  try simp only [go_sem]
  (repeat (with_reducible refine And.intro ?_ ?_; (first | omega | (intro _; omega) | decide | (exact nfB) | (intro hg; refine ⟨hg, ?_⟩; omega) | (simp; done) | (simp; omega))))
  intro b3 fb3
  try simp only [freshL] at fb3
  try simp only [go_sem, fb3]
  (repeat (with_reducible refine And.intro ?_ ?_; (first | omega | (intro _; omega) | decide | (exact nfB) | (intro hg; refine ⟨hg, ?_⟩; omega) | (simp; done) | (simp; omega))))
  refine hK1 _ _ ?_
  try clear hK1 K1
  refine AWp.rs fun K2 hK2 => ?_
  try simp only [go_sem, fb3]
  (repeat (with_reducible refine And.intro ?_ ?_; (first | omega | (intro _; omega) | decide | (exact nfB) | (intro hg; refine ⟨hg, ?_⟩; omega) | (simp; done) | (simp; omega))))
  refine hK2 _ _ ?_
  try clear hK2 K2
  refine AWp.ownNilS 3 3 rfl rfl (by decide) fun u fu => ?_
  try simp only [freshT] at fu
  simp only [go_sem, fb3, fu]
  refine AWp.seq fun K3 hK3 => ?_
  refine AWp.rs fun K4 hK4 => ?_
  try simp only [go_sem, fb3, fu]
  (repeat (with_reducible refine And.intro ?_ ?_; (first | omega | (intro _; omega) | decide | (exact nfB) | (intro hg; refine ⟨hg, ?_⟩; omega) | (simp; done) | (simp; omega))))
  refine hK4 _ _ ?_
  try clear hK4 K4
  refine AWp.mask [false, true, false, true, false, false, true] rfl ?_
  simp only [go_sem]
  refine AWp.cond _ rfl (fun hc0 => ?_) (fun hc0 => ?_)
  · skip
    try simp only [decide_eq_true_eq, decide_eq_false_iff_not, Bool.not_eq_true', Bool.not_eq_false', Bool.and_eq_true, Bool.or_eq_true, Bool.and_eq_false_iff, Bool.or_eq_false_iff, Int.not_lt, Int.not_le, beq_iff_eq, beq_eq_false_iff_ne, ne_eq, Bool.not_eq_true, Bool.not_eq_false] at hc0
    have hT : cmT c = (if 0 < c.texts.length then strsT c.texts else []) ++ [tM [59]] := by rw [cmT_eq, if_neg hc0]
    refine AWp.seq fun K5 hK5 => ?_
    refine AWp.rs fun K6 hK6 => ?_
    try simp only [go_sem, fb3, fu]
    (repeat (with_reducible refine And.intro ?_ ?_; (first | omega | (intro _; omega) | decide | (exact nfB) | (intro hg; refine ⟨hg, ?_⟩; omega) | (simp; done) | (simp; omega))))
    refine hK6 _ _ ?_
    try clear hK6 K6
    refine AWp.mask [true, true, false, false, false, false, true] rfl ?_
    simp only [go_sem]
    refine AWp.cond _ rfl (fun hc1 => ?_) (fun hc1 => ?_)
    · skip
      try simp only [decide_eq_true_eq, decide_eq_false_iff_not, Bool.not_eq_true', Bool.not_eq_false', Bool.and_eq_true, Bool.or_eq_true, Bool.and_eq_false_iff, Bool.or_eq_false_iff, Int.not_lt, Int.not_le, beq_iff_eq, beq_eq_false_iff_ne, ne_eq, Bool.not_eq_true, Bool.not_eq_false] at hc1
      rw [if_pos (by omega)] at hT
      have hTl := congrArg List.length hT
      simp only [List.length_cons, List.length_append, List.length_nil] at hTl
      refine AWp.rk fun K7 hK7 => ?_
      try simp only [go_sem, fb3, fu]
      (repeat (with_reducible refine And.intro ?_ ?_; (first | omega | (intro _; omega) | decide | (exact nfB) | (intro hg; refine ⟨hg, ?_⟩; omega) | (simp; done) | (simp; omega))))
      refine DW.pcr rfl rfl rfl rfl (strsShown_c T _ (by omega) (by omega)) rfl rfl ?_
      try simp only [go_sem, fb3, fu]
      (repeat (with_reducible refine And.intro ?_ ?_; (first | omega | (intro _; omega) | decide | (exact nfB) | (intro hg; refine ⟨hg, ?_⟩; omega) | (simp; done) | (simp; omega))))
      refine DW.app rfl rfl rfl rfl (show slI Tryd.prog 28 = some (108, 3, 32) by simp only [go_sem]) rfl rfl (by simp only [go_sem, fb3, fu]) (by first | exact .inl rfl | exact .inr rfl) (by first | (simp only [go_sem, List.length_append, List.length_cons, List.length_nil] <;> omega) | (simp <;> omega)) (by first | (simp only [go_sem, List.length_append, List.length_cons, List.length_nil] <;> omega) | (simp <;> omega)) fun t1 ft1 => ?_
      try simp only [freshT] at ft1
      try simp only [go_sem, fb3, fu, ft1]
      (repeat (with_reducible refine And.intro ?_ ?_; (first | omega | (intro _; omega) | decide | (exact nfB) | (intro hg; refine ⟨hg, ?_⟩; omega) | (simp; done) | (simp; omega))))
      refine hK7 _ _ ?_
      try clear hK7 K7
      refine thenQ_n ?_
      refine hK5 _ _ ?_
      try clear hK5 K5
      refine AWp.mask [false, true] rfl ?_
      simp only [go_sem]
      refine AWp.rs fun K8 hK8 => ?_
      try simp only [go_sem, fb3, fu, ft1]
      (repeat (with_reducible refine And.intro ?_ ?_; (first | omega | (intro _; omega) | decide | (exact nfB) | (intro hg; refine ⟨hg, ?_⟩; omega) | (simp; done) | (simp; omega))))
      refine DW.pcr rfl rfl rfl rfl (tok_c T _ _) rfl rfl ?_
      try simp only [go_sem, fb3, fu, ft1]
      (repeat (with_reducible refine And.intro ?_ ?_; (first | omega | (intro _; omega) | decide | (exact nfB) | (intro hg; refine ⟨hg, ?_⟩; omega) | (simp; done) | (simp; omega))))
      refine DW.app rfl rfl rfl rfl (show slI Tryd.prog 28 = some (108, 3, 32) by simp only [go_sem]) rfl rfl (by simp only [go_sem, fb3, fu, ft1]) (by first | exact .inl rfl | exact .inr rfl) (by first | (simp only [go_sem, List.length_append, List.length_cons, List.length_nil] <;> omega) | (simp <;> omega)) (by first | (simp only [go_sem, List.length_append, List.length_cons, List.length_nil] <;> omega) | (simp <;> omega)) fun t2 ft2 => ?_
      try simp only [freshT] at ft2
      try simp only [go_sem, fb3, fu, ft1, ft2]
      (repeat (with_reducible refine And.intro ?_ ?_; (first | omega | (intro _; omega) | decide | (exact nfB) | (intro hg; refine ⟨hg, ?_⟩; omega) | (simp; done) | (simp; omega))))
      refine hK8 _ _ ?_
      try clear hK8 K8
      refine AWp.mask [true] rfl ?_
      simp only [go_sem]
      refine AWp.ret ?_
      try simp only [go_sem, fb3, fu, ft1, ft2]
      simp [toksD, tokD, tM, tW, hT]
    · skip
      try simp only [decide_eq_true_eq, decide_eq_false_iff_not, Bool.not_eq_true', Bool.not_eq_false', Bool.and_eq_true, Bool.or_eq_true, Bool.and_eq_false_iff, Bool.or_eq_false_iff, Int.not_lt, Int.not_le, beq_iff_eq, beq_eq_false_iff_ne, ne_eq, Bool.not_eq_true, Bool.not_eq_false] at hc1
      rw [if_neg (by omega)] at hT
      have hTl := congrArg List.length hT
      simp only [List.length_cons, List.length_append, List.length_nil] at hTl
      refine AWp.skip ?_
      refine thenQ_n ?_
      refine hK5 _ _ ?_
      try clear hK5 K5
      refine AWp.rs fun K9 hK9 => ?_
      try simp only [go_sem, fb3, fu]
      (repeat (with_reducible refine And.intro ?_ ?_; (first | omega | (intro _; omega) | decide | (exact nfB) | (intro hg; refine ⟨hg, ?_⟩; omega) | (simp; done) | (simp; omega))))
      refine DW.pcr rfl rfl rfl rfl (tok_c T _ _) rfl rfl ?_
      try simp only [go_sem, fb3, fu]
      (repeat (with_reducible refine And.intro ?_ ?_; (first | omega | (intro _; omega) | decide | (exact nfB) | (intro hg; refine ⟨hg, ?_⟩; omega) | (simp; done) | (simp; omega))))
      refine DW.app rfl rfl rfl rfl (show slI Tryd.prog 28 = some (108, 3, 32) by simp only [go_sem]) rfl rfl (by simp only [go_sem, fb3, fu]) (by first | exact .inl rfl | exact .inr rfl) (by first | (simp only [go_sem, List.length_append, List.length_cons, List.length_nil] <;> omega) | (simp <;> omega)) (by first | (simp only [go_sem, List.length_append, List.length_cons, List.length_nil] <;> omega) | (simp <;> omega)) fun t3 ft3 => ?_
      try simp only [freshT] at ft3
      try simp only [go_sem, fb3, fu, ft3]
      (repeat (with_reducible refine And.intro ?_ ?_; (first | omega | (intro _; omega) | decide | (exact nfB) | (intro hg; refine ⟨hg, ?_⟩; omega) | (simp; done) | (simp; omega))))
      refine hK9 _ _ ?_
      try clear hK9 K9
      refine AWp.mask [false, true] rfl ?_
      simp only [go_sem]
      refine AWp.ret ?_
      try simp only [go_sem, fb3, fu, ft3]
      simp [toksD, tokD, tM, tW, hT]
  · skip
    try simp only [decide_eq_true_eq, decide_eq_false_iff_not, Bool.not_eq_true', Bool.not_eq_false', Bool.and_eq_true, Bool.or_eq_true, Bool.and_eq_false_iff, Bool.or_eq_false_iff, Int.not_lt, Int.not_le, beq_iff_eq, beq_eq_false_iff_ne, ne_eq, Bool.not_eq_true, Bool.not_eq_false] at hc0
    obtain ⟨hft, hf1, hf2, hf3⟩ := hok hc0
    have hT : cmT c = tT c.test ++ tM [123] :: (lsT c.thn ++ tM [125] :: elT c.els) := by rw [cmT_eq, if_pos hc0]
    have hTl := congrArg List.length hT
    simp only [List.length_cons, List.length_append, List.length_nil] at hTl
    refine AWp.skip ?_
    refine thenQ_n ?_
    refine hK3 _ _ ?_
    try clear hK3 K3
    refine AWp.rs fun K10 hK10 => ?_
    try simp only [go_sem, fb3, fu]
    (repeat (with_reducible refine And.intro ?_ ?_; (first | omega | (intro _; omega) | decide | (exact nfB) | (intro hg; refine ⟨hg, ?_⟩; omega) | (simp; done) | (simp; omega))))
    refine DW.pcr rfl rfl rfl rfl (testShown_c T _ s2 1 hft (by omega)) rfl rfl ?_
    try simp only [go_sem, fb3, fu]
    (repeat (with_reducible refine And.intro ?_ ?_; (first | omega | (intro _; omega) | decide | (exact nfB) | (intro hg; refine ⟨hg, ?_⟩; omega) | (simp; done) | (simp; omega))))
    refine DW.app rfl rfl rfl rfl (show slI Tryd.prog 28 = some (108, 3, 32) by simp only [go_sem]) rfl rfl (by simp only [go_sem, fb3, fu]) (by first | exact .inl rfl | exact .inr rfl) (by first | (simp only [go_sem, List.length_append, List.length_cons, List.length_nil] <;> omega) | (simp <;> omega)) (by first | (simp only [go_sem, List.length_append, List.length_cons, List.length_nil] <;> omega) | (simp <;> omega)) fun t4 ft4 => ?_
    try simp only [freshT] at ft4
    try simp only [go_sem, fb3, fu, ft4]
    (repeat (with_reducible refine And.intro ?_ ?_; (first | omega | (intro _; omega) | decide | (exact nfB) | (intro hg; refine ⟨hg, ?_⟩; omega) | (simp; done) | (simp; omega))))
    refine hK10 _ _ ?_
    try clear hK10 K10
    refine AWp.mask [true, true] rfl ?_
    simp only [go_sem]
    refine AWp.rs fun K11 hK11 => ?_
    try simp only [go_sem, fb3, fu, ft4]
    (repeat (with_reducible refine And.intro ?_ ?_; (first | omega | (intro _; omega) | decide | (exact nfB) | (intro hg; refine ⟨hg, ?_⟩; omega) | (simp; done) | (simp; omega))))
    refine DW.pcr rfl rfl rfl rfl (tok_c T _ _) rfl rfl ?_
    try simp only [go_sem, fb3, fu, ft4]
    (repeat (with_reducible refine And.intro ?_ ?_; (first | omega | (intro _; omega) | decide | (exact nfB) | (intro hg; refine ⟨hg, ?_⟩; omega) | (simp; done) | (simp; omega))))
    refine DW.app rfl rfl rfl rfl (show slI Tryd.prog 28 = some (108, 3, 32) by simp only [go_sem]) rfl rfl (by simp only [go_sem, fb3, fu, ft4]) (by first | exact .inl rfl | exact .inr rfl) (by first | (simp only [go_sem, List.length_append, List.length_cons, List.length_nil] <;> omega) | (simp <;> omega)) (by first | (simp only [go_sem, List.length_append, List.length_cons, List.length_nil] <;> omega) | (simp <;> omega)) fun t5 ft5 => ?_
    try simp only [freshT] at ft5
    try simp only [go_sem, fb3, fu, ft4, ft5]
    (repeat (with_reducible refine And.intro ?_ ?_; (first | omega | (intro _; omega) | decide | (exact nfB) | (intro hg; refine ⟨hg, ?_⟩; omega) | (simp; done) | (simp; omega))))
    refine hK11 _ _ ?_
    try clear hK11 K11
    refine AWp.mask [true, true] rfl ?_
    simp only [go_sem]
    refine AWp.rs fun K12 hK12 => ?_
    try simp only [go_sem, fb3, fu, ft4, ft5]
    (repeat (with_reducible refine And.intro ?_ ?_; (first | omega | (intro _; omega) | decide | (exact nfB) | (intro hg; refine ⟨hg, ?_⟩; omega) | (simp; done) | (simp; omega))))
    refine DW.pcr rfl rfl rfl rfl (i1 hc0) rfl rfl ?_
    try simp only [go_sem, fb3, fu, ft4, ft5]
    (repeat (with_reducible refine And.intro ?_ ?_; (first | omega | (intro _; omega) | decide | (exact nfB) | (intro hg; refine ⟨hg, ?_⟩; omega) | (simp; done) | (simp; omega))))
    refine DW.app rfl rfl rfl rfl (show slI Tryd.prog 28 = some (108, 3, 32) by simp only [go_sem]) rfl rfl (by simp only [go_sem, fb3, fu, ft4, ft5]) (by first | exact .inl rfl | exact .inr rfl) (by first | (simp only [go_sem, List.length_append, List.length_cons, List.length_nil] <;> omega) | (simp <;> omega)) (by first | (simp only [go_sem, List.length_append, List.length_cons, List.length_nil] <;> omega) | (simp <;> omega)) fun t6 ft6 => ?_
    try simp only [freshT] at ft6
    try simp only [go_sem, fb3, fu, ft4, ft5, ft6]
    (repeat (with_reducible refine And.intro ?_ ?_; (first | omega | (intro _; omega) | decide | (exact nfB) | (intro hg; refine ⟨hg, ?_⟩; omega) | (simp; done) | (simp; omega))))
    refine hK12 _ _ ?_
    try clear hK12 K12
    refine AWp.mask [true, true] rfl ?_
    simp only [go_sem]
    refine AWp.rs fun K13 hK13 => ?_
    try simp only [go_sem, fb3, fu, ft4, ft5, ft6]
    (repeat (with_reducible refine And.intro ?_ ?_; (first | omega | (intro _; omega) | decide | (exact nfB) | (intro hg; refine ⟨hg, ?_⟩; omega) | (simp; done) | (simp; omega))))
    refine DW.pcr rfl rfl rfl rfl (tok_c T _ _) rfl rfl ?_
    try simp only [go_sem, fb3, fu, ft4, ft5, ft6]
    (repeat (with_reducible refine And.intro ?_ ?_; (first | omega | (intro _; omega) | decide | (exact nfB) | (intro hg; refine ⟨hg, ?_⟩; omega) | (simp; done) | (simp; omega))))
    refine DW.app rfl rfl rfl rfl (show slI Tryd.prog 28 = some (108, 3, 32) by simp only [go_sem]) rfl rfl (by simp only [go_sem, fb3, fu, ft4, ft5, ft6]) (by first | exact .inl rfl | exact .inr rfl) (by first | (simp only [go_sem, List.length_append, List.length_cons, List.length_nil] <;> omega) | (simp <;> omega)) (by first | (simp only [go_sem, List.length_append, List.length_cons, List.length_nil] <;> omega) | (simp <;> omega)) fun t7 ft7 => ?_
    try simp only [freshT] at ft7
    try simp only [go_sem, fb3, fu, ft4, ft5, ft6, ft7]
    (repeat (with_reducible refine And.intro ?_ ?_; (first | omega | (intro _; omega) | decide | (exact nfB) | (intro hg; refine ⟨hg, ?_⟩; omega) | (simp; done) | (simp; omega))))
    refine hK13 _ _ ?_
    try clear hK13 K13
    refine AWp.mask [true, true] rfl ?_
    simp only [go_sem]
    refine AWp.seq fun K14 hK14 => ?_
    refine AWp.rs fun K15 hK15 => ?_
    try simp only [go_sem, fb3, fu, ft4, ft5, ft6, ft7]
    (repeat (with_reducible refine And.intro ?_ ?_; (first | omega | (intro _; omega) | decide | (exact nfB) | (intro hg; refine ⟨hg, ?_⟩; omega) | (simp; done) | (simp; omega))))
    refine DW.pcr rfl rfl rfl rfl (elsif_c T _) rfl rfl ?_
    try simp only [go_sem, fb3, fu, ft4, ft5, ft6, ft7]
    (repeat (with_reducible refine And.intro ?_ ?_; (first | omega | (intro _; omega) | decide | (exact nfB) | (intro hg; refine ⟨hg, ?_⟩; omega) | (simp; done) | (simp; omega))))
    refine hK15 _ _ ?_
    try clear hK15 K15
    refine AWp.cond _ rfl (fun hc2 => ?_) (fun hc2 => ?_)
    · skip
      try simp only [decide_eq_true_eq, decide_eq_false_iff_not, Bool.not_eq_true', Bool.not_eq_false', Bool.and_eq_true, Bool.or_eq_true, Bool.and_eq_false_iff, Bool.or_eq_false_iff, Int.not_lt, Int.not_le, beq_iff_eq, beq_eq_false_iff_ne, ne_eq, Bool.not_eq_true, Bool.not_eq_false] at hc2
      have h0 : 0 < c.els.length := by rcases Nat.eq_zero_or_pos c.els.length with h | h; exact absurd hc2 (by rw [elsifC_1 c (by omega)]; simp); exact h
      rw [elT_t c hc2 h0] at hT hTl
      simp only [List.length_cons, List.length_append, List.length_nil] at hTl
      refine AWp.rs fun K16 hK16 => ?_
      try simp only [go_sem, fb3, fu, ft4, ft5, ft6, ft7, elsD_get c _ _ h0]
      (repeat (with_reducible refine And.intro ?_ ?_; (first | omega | (intro _; omega) | decide | (exact nfB) | (intro hg; refine ⟨hg, ?_⟩; omega) | (simp; done) | (simp; omega))))
      refine DW.pcr rfl rfl rfl rfl (tok_c T _ _) rfl rfl ?_
      try simp only [go_sem, fb3, fu, ft4, ft5, ft6, ft7, elsD_get c _ _ h0]
      (repeat (with_reducible refine And.intro ?_ ?_; (first | omega | (intro _; omega) | decide | (exact nfB) | (intro hg; refine ⟨hg, ?_⟩; omega) | (simp; done) | (simp; omega))))
      refine DW.app rfl rfl rfl rfl (show slI Tryd.prog 28 = some (108, 3, 32) by simp only [go_sem]) rfl rfl (by simp only [go_sem, fb3, fu, ft4, ft5, ft6, ft7, elsD_get c _ _ h0]) (by first | exact .inl rfl | exact .inr rfl) (by first | (simp only [go_sem, List.length_append, List.length_cons, List.length_nil] <;> omega) | (simp <;> omega)) (by first | (simp only [go_sem, List.length_append, List.length_cons, List.length_nil] <;> omega) | (simp <;> omega)) fun t8 ft8 => ?_
      try simp only [freshT] at ft8
      try simp only [go_sem, fb3, fu, ft4, ft5, ft6, ft7, elsD_get c _ _ h0, ft8]
      (repeat (with_reducible refine And.intro ?_ ?_; (first | omega | (intro _; omega) | decide | (exact nfB) | (intro hg; refine ⟨hg, ?_⟩; omega) | (simp; done) | (simp; omega))))
      refine hK16 _ _ ?_
      try clear hK16 K16
      refine AWp.mask [true, true] rfl ?_
      simp only [go_sem]
      refine AWp.rs fun K17 hK17 => ?_
      try simp only [go_sem, fb3, fu, ft4, ft5, ft6, ft7, elsD_get c _ _ h0, ft8]
      (repeat (with_reducible refine And.intro ?_ ?_; (first | omega | (intro _; omega) | decide | (exact nfB) | (intro hg; refine ⟨hg, ?_⟩; omega) | (simp; done) | (simp; omega))))
      refine DW.pcr rfl rfl rfl rfl (i3 hc0 hc2 h0) rfl rfl ?_
      try simp only [go_sem, fb3, fu, ft4, ft5, ft6, ft7, elsD_get c _ _ h0, ft8]
      (repeat (with_reducible refine And.intro ?_ ?_; (first | omega | (intro _; omega) | decide | (exact nfB) | (intro hg; refine ⟨hg, ?_⟩; omega) | (simp; done) | (simp; omega))))
      refine DW.app rfl rfl rfl rfl (show slI Tryd.prog 28 = some (108, 3, 32) by simp only [go_sem]) rfl rfl (by simp only [go_sem, fb3, fu, ft4, ft5, ft6, ft7, elsD_get c _ _ h0, ft8]) (by first | exact .inl rfl | exact .inr rfl) (by first | (simp only [go_sem, List.length_append, List.length_cons, List.length_nil] <;> omega) | (simp <;> omega)) (by first | (simp only [go_sem, List.length_append, List.length_cons, List.length_nil] <;> omega) | (simp <;> omega)) fun t9 ft9 => ?_
      try simp only [freshT] at ft9
      try simp only [go_sem, fb3, fu, ft4, ft5, ft6, ft7, elsD_get c _ _ h0, ft8, ft9]
      (repeat (with_reducible refine And.intro ?_ ?_; (first | omega | (intro _; omega) | decide | (exact nfB) | (intro hg; refine ⟨hg, ?_⟩; omega) | (simp; done) | (simp; omega))))
      refine hK17 _ _ ?_
      try clear hK17 K17
      refine AWp.mask [false, true] rfl ?_
      simp only [go_sem]
      refine AWp.ret ?_
      try simp only [go_sem, fb3, fu, ft4, ft5, ft6, ft7, elsD_get c _ _ h0, ft8, ft9]
      simp [toksD, tokD, tM, tW, hT]
    · skip
      try simp only [decide_eq_true_eq, decide_eq_false_iff_not, Bool.not_eq_true', Bool.not_eq_false', Bool.and_eq_true, Bool.or_eq_true, Bool.and_eq_false_iff, Bool.or_eq_false_iff, Int.not_lt, Int.not_le, beq_iff_eq, beq_eq_false_iff_ne, ne_eq, Bool.not_eq_true, Bool.not_eq_false] at hc2
      refine AWp.skip ?_
      refine thenQ_n ?_
      refine hK14 _ _ ?_
      try clear hK14 K14
      refine AWp.seq fun K18 hK18 => ?_
      refine AWp.rs fun K19 hK19 => ?_
      try simp only [go_sem, fb3, fu, ft4, ft5, ft6, ft7]
      (repeat (with_reducible refine And.intro ?_ ?_; (first | omega | (intro _; omega) | decide | (exact nfB) | (intro hg; refine ⟨hg, ?_⟩; omega) | (simp; done) | (simp; omega))))
      refine hK19 _ _ ?_
      try clear hK19 K19
      refine AWp.mask [true, true, false, false, false, false, false, true] rfl ?_
      simp only [go_sem]
      refine AWp.cond _ rfl (fun hc3 => ?_) (fun hc3 => ?_)
      · skip
        try simp only [decide_eq_true_eq, decide_eq_false_iff_not, Bool.not_eq_true', Bool.not_eq_false', Bool.and_eq_true, Bool.or_eq_true, Bool.and_eq_false_iff, Bool.or_eq_false_iff, Int.not_lt, Int.not_le, beq_iff_eq, beq_eq_false_iff_ne, ne_eq, Bool.not_eq_true, Bool.not_eq_false] at hc3
        rw [elT_f c hc2 (by omega)] at hT hTl
        simp only [List.length_cons, List.length_append, List.length_nil] at hTl
        refine AWp.rs fun K20 hK20 => ?_
        try simp only [go_sem, fb3, fu, ft4, ft5, ft6, ft7]
        (repeat (with_reducible refine And.intro ?_ ?_; (first | omega | (intro _; omega) | decide | (exact nfB) | (intro hg; refine ⟨hg, ?_⟩; omega) | (simp; done) | (simp; omega))))
        refine DW.pcr rfl rfl rfl rfl (tok_c T _ _) rfl rfl ?_
        try simp only [go_sem, fb3, fu, ft4, ft5, ft6, ft7]
        (repeat (with_reducible refine And.intro ?_ ?_; (first | omega | (intro _; omega) | decide | (exact nfB) | (intro hg; refine ⟨hg, ?_⟩; omega) | (simp; done) | (simp; omega))))
        refine DW.pcr rfl rfl rfl rfl (tok_c T _ _) rfl rfl ?_
        try simp only [go_sem, fb3, fu, ft4, ft5, ft6, ft7]
        (repeat (with_reducible refine And.intro ?_ ?_; (first | omega | (intro _; omega) | decide | (exact nfB) | (intro hg; refine ⟨hg, ?_⟩; omega) | (simp; done) | (simp; omega))))
        refine DW.app rfl rfl rfl rfl (show slI Tryd.prog 28 = some (108, 3, 32) by simp only [go_sem]) rfl rfl (by simp only [go_sem, fb3, fu, ft4, ft5, ft6, ft7]) (by first | exact .inl rfl | exact .inr rfl) (by first | (simp only [go_sem, List.length_append, List.length_cons, List.length_nil] <;> omega) | (simp <;> omega)) (by first | (simp only [go_sem, List.length_append, List.length_cons, List.length_nil] <;> omega) | (simp <;> omega)) fun t10 ft10 => ?_
        try simp only [freshT] at ft10
        try simp only [go_sem, fb3, fu, ft4, ft5, ft6, ft7, ft10]
        (repeat (with_reducible refine And.intro ?_ ?_; (first | omega | (intro _; omega) | decide | (exact nfB) | (intro hg; refine ⟨hg, ?_⟩; omega) | (simp; done) | (simp; omega))))
        refine hK20 _ _ ?_
        try clear hK20 K20
        refine AWp.mask [true, true] rfl ?_
        simp only [go_sem]
        refine AWp.rs fun K21 hK21 => ?_
        try simp only [go_sem, fb3, fu, ft4, ft5, ft6, ft7, ft10]
        (repeat (with_reducible refine And.intro ?_ ?_; (first | omega | (intro _; omega) | decide | (exact nfB) | (intro hg; refine ⟨hg, ?_⟩; omega) | (simp; done) | (simp; omega))))
        refine DW.pcr rfl rfl rfl rfl (i2 hc0 hc2 (by omega)) rfl rfl ?_
        try simp only [go_sem, fb3, fu, ft4, ft5, ft6, ft7, ft10]
        (repeat (with_reducible refine And.intro ?_ ?_; (first | omega | (intro _; omega) | decide | (exact nfB) | (intro hg; refine ⟨hg, ?_⟩; omega) | (simp; done) | (simp; omega))))
        refine DW.app rfl rfl rfl rfl (show slI Tryd.prog 28 = some (108, 3, 32) by simp only [go_sem]) rfl rfl (by simp only [go_sem, fb3, fu, ft4, ft5, ft6, ft7, ft10]) (by first | exact .inl rfl | exact .inr rfl) (by first | (simp only [go_sem, List.length_append, List.length_cons, List.length_nil] <;> omega) | (simp <;> omega)) (by first | (simp only [go_sem, List.length_append, List.length_cons, List.length_nil] <;> omega) | (simp <;> omega)) fun t11 ft11 => ?_
        try simp only [freshT] at ft11
        try simp only [go_sem, fb3, fu, ft4, ft5, ft6, ft7, ft10, ft11]
        (repeat (with_reducible refine And.intro ?_ ?_; (first | omega | (intro _; omega) | decide | (exact nfB) | (intro hg; refine ⟨hg, ?_⟩; omega) | (simp; done) | (simp; omega))))
        refine hK21 _ _ ?_
        try clear hK21 K21
        refine AWp.mask [false, true] rfl ?_
        simp only [go_sem]
        refine AWp.rk fun K22 hK22 => ?_
        try simp only [go_sem, fb3, fu, ft4, ft5, ft6, ft7, ft10, ft11]
        (repeat (with_reducible refine And.intro ?_ ?_; (first | omega | (intro _; omega) | decide | (exact nfB) | (intro hg; refine ⟨hg, ?_⟩; omega) | (simp; done) | (simp; omega))))
        refine DW.pcr rfl rfl rfl rfl (tok_c T _ _) rfl rfl ?_
        try simp only [go_sem, fb3, fu, ft4, ft5, ft6, ft7, ft10, ft11]
        (repeat (with_reducible refine And.intro ?_ ?_; (first | omega | (intro _; omega) | decide | (exact nfB) | (intro hg; refine ⟨hg, ?_⟩; omega) | (simp; done) | (simp; omega))))
        refine DW.app rfl rfl rfl rfl (show slI Tryd.prog 28 = some (108, 3, 32) by simp only [go_sem]) rfl rfl (by simp only [go_sem, fb3, fu, ft4, ft5, ft6, ft7, ft10, ft11]) (by first | exact .inl rfl | exact .inr rfl) (by first | (simp only [go_sem, List.length_append, List.length_cons, List.length_nil] <;> omega) | (simp <;> omega)) (by first | (simp only [go_sem, List.length_append, List.length_cons, List.length_nil] <;> omega) | (simp <;> omega)) fun t12 ft12 => ?_
        try simp only [freshT] at ft12
        try simp only [go_sem, fb3, fu, ft4, ft5, ft6, ft7, ft10, ft11, ft12]
        (repeat (with_reducible refine And.intro ?_ ?_; (first | omega | (intro _; omega) | decide | (exact nfB) | (intro hg; refine ⟨hg, ?_⟩; omega) | (simp; done) | (simp; omega))))
        refine hK22 _ _ ?_
        try clear hK22 K22
        refine thenQ_n ?_
        refine hK18 _ _ ?_
        try clear hK18 K18
        refine AWp.mask [true] rfl ?_
        simp only [go_sem]
        refine AWp.rs fun K23 hK23 => ?_
        try simp only [go_sem, fb3, fu, ft4, ft5, ft6, ft7, ft10, ft11, ft12]
        (repeat (with_reducible refine And.intro ?_ ?_; (first | omega | (intro _; omega) | decide | (exact nfB) | (intro hg; refine ⟨hg, ?_⟩; omega) | (simp; done) | (simp; omega))))
        refine hK23 _ _ ?_
        try clear hK23 K23
        refine AWp.ret ?_
        try simp only [go_sem, fb3, fu, ft4, ft5, ft6, ft7, ft10, ft11, ft12]
        simp [toksD, tokD, tM, tW, hT]
      · skip
        try simp only [decide_eq_true_eq, decide_eq_false_iff_not, Bool.not_eq_true', Bool.not_eq_false', Bool.and_eq_true, Bool.or_eq_true, Bool.and_eq_false_iff, Bool.or_eq_false_iff, Int.not_lt, Int.not_le, beq_iff_eq, beq_eq_false_iff_ne, ne_eq, Bool.not_eq_true, Bool.not_eq_false] at hc3
        rw [elT_0 c (by omega)] at hT hTl
        simp only [List.length_cons, List.length_append, List.length_nil] at hTl
        refine AWp.skip ?_
        refine thenQ_n ?_
        refine hK18 _ _ ?_
        try clear hK18 K18
        refine AWp.rs fun K24 hK24 => ?_
        try simp only [go_sem, fb3, fu, ft4, ft5, ft6, ft7]
        (repeat (with_reducible refine And.intro ?_ ?_; (first | omega | (intro _; omega) | decide | (exact nfB) | (intro hg; refine ⟨hg, ?_⟩; omega) | (simp; done) | (simp; omega))))
        refine hK24 _ _ ?_
        try clear hK24 K24
        refine AWp.mask [false, true] rfl ?_
        simp only [go_sem]
        refine AWp.ret ?_
        try simp only [go_sem, fb3, fu, ft4, ft5, ft6, ft7]
        simp [toksD, tokD, tM, tW, hT]
set_option maxRecDepth 4000 in
set_option maxHeartbeats 1000000 in
theorem listShown_step (T : Tbl) (l : List Cmd) (hll : l.length * 208 ≤ 140737488355328) (hl : (lsT l).length ≤ 4398046511104) (hk : ∀ x ∈ l, 1 ≤ x.kind ∧ x.kind ≤ 10) (ih : ∀ x ∈ l, PC Tryd.prog T 115 [.agg (cmdA x)] (.d (.slc 3 (toksD (cmT x))))) : PC Tryd.prog T 59 [.d (.slc 12 (l.map cmdD))] (.d (.slc 3 (toksD (lsT l)))) := by
  refine ⟨Tryd.call59, PCall.enterS Tryd.func59 rfl Tryd.ntmps59 rfl fun hb => ?_⟩
  simp only [go_sem, Tryd.results59]
  refine AWp.rs fun K1 hK1 => ?_
  try simp only [go_sem]
  (repeat (with_reducible refine And.intro ?_ ?_; (first | omega | (intro _; omega) | decide | (exact nfB) | (intro hg; refine ⟨hg, ?_⟩; omega) | (simp; done) | (simp; omega))))
  refine hK1 _ _ ?_
  try clear hK1 K1
  refine AWp.rs fun K2 hK2 => ?_
  try simp only [go_sem]
  (repeat (with_reducible refine And.intro ?_ ?_; (first | omega | (intro _; omega) | decide | (exact nfB) | (intro hg; refine ⟨hg, ?_⟩; omega) | (simp; done) | (simp; omega))))
  refine hK2 _ _ ?_
  try clear hK2 K2
  refine AWp.ownNilS 3 3 rfl rfl (by decide) fun u fu => ?_
  try simp only [freshT] at fu
  simp only [go_sem, fu]
  refine AWp.seq fun K3 hK3 => ?_
  refine AWp.rs fun K4 hK4 => ?_
  try simp only [go_sem, fu]
  (repeat (with_reducible refine And.intro ?_ ?_; (first | omega | (intro _; omega) | decide | (exact nfB) | (intro hg; refine ⟨hg, ?_⟩; omega) | (simp; done) | (simp; omega))))
  refine hK4 _ _ ?_
  try clear hK4 K4
  refine AWp.block ?_
  refine AWp.mask [true, false, true, true] rfl ?_
  simp only [go_sem]
  refine AWp.loopS [true] [false, true, true] (fun n lc hc => ∃ (k v : Nat) (Y : List Tok), n = l.length - k ∧ EqS lc [(3, .own v 3 (toksD Y)), (4, .d (.int .i64 k))] ∧ EqS hc (⟨[], [v]⟩) ∧ (k ≤ l.length) ∧ (Y ++ lsT (l.drop k) = lsT l)) rfl ?_ ?_
  · refine ⟨_, 0, u, [], rfl, ?_, ?_, ?_, ?_⟩
    · (try simp only [go_sem, fu]) <;> first | exact ⟨rfl⟩ | (constructor; simp [toksD]; done)
    · (try simp only [go_sem, fu]) <;> first | exact ⟨rfl⟩ | (constructor; simp; done)
    all_goals (first | omega | rfl | (simp; done) | (simp; omega) | assumption)
  · rintro _ _ _ ⟨k, v, Y, rfl, ⟨rfl⟩, ⟨rfl⟩, hk2, hY⟩
    have hYl := congrArg List.length hY
    simp only [List.length_append] at hYl
    simp only [go_sem]
    refine AWp.seq fun K5 hK5 => ?_
    refine AWp.rs fun K6 hK6 => ?_
    try simp only [go_sem, fu]
    (repeat (with_reducible refine And.intro ?_ ?_; (first | omega | (intro _; omega) | decide | (exact nfB) | (intro hg; refine ⟨hg, ?_⟩; omega) | (simp; done) | (simp; omega))))
    refine hK6 _ _ ?_
    try clear hK6 K6
    refine AWp.cond _ rfl (fun hc0 => ?_) (fun hc0 => ?_)
    · skip
      try simp only [decide_eq_true_eq, decide_eq_false_iff_not, Bool.not_eq_true', Bool.not_eq_false', Bool.and_eq_true, Bool.or_eq_true, Bool.and_eq_false_iff, Bool.or_eq_false_iff, Int.not_lt, Int.not_le, beq_iff_eq, beq_eq_false_iff_ne, ne_eq, Bool.not_eq_true, Bool.not_eq_false] at hc0
      have hlt : k < l.length := by omega
      rw [lsT_drop _ _ hlt] at hYl
      simp only [List.length_append, List.length_cons] at hYl
      obtain ⟨k1, k2⟩ := hk _ (List.getElem_mem hlt)
      refine AWp.skip ?_
      refine thenQ_n ?_
      refine hK5 _ _ ?_
      try clear hK5 K5
      refine AWp.mask [true, true, true] rfl ?_
      simp only [go_sem]
      refine AWp.seq fun K7 hK7 => ?_
      refine AWp.block ?_
      refine AWp.rs fun K8 hK8 => ?_
      try simp only [go_sem, fu, map_getD cmdD _ _ _ hlt]
      (repeat (with_reducible refine And.intro ?_ ?_; (first | omega | (intro _; omega) | decide | (exact nfB) | (intro hg; refine ⟨hg, ?_⟩; omega) | (simp; done) | (simp; omega))))
      refine DW.pcr rfl rfl rfl rfl (commandWord_c T _ (by omega) (by omega)) rfl rfl ?_
      try simp only [go_sem, fu, map_getD cmdD _ _ _ hlt]
      (repeat (with_reducible refine And.intro ?_ ?_; (first | omega | (intro _; omega) | decide | (exact nfB) | (intro hg; refine ⟨hg, ?_⟩; omega) | (simp; done) | (simp; omega))))
      refine DW.pcr rfl rfl rfl rfl (tok_c T _ _) rfl rfl ?_
      try simp only [go_sem, fu, map_getD cmdD _ _ _ hlt]
      (repeat (with_reducible refine And.intro ?_ ?_; (first | omega | (intro _; omega) | decide | (exact nfB) | (intro hg; refine ⟨hg, ?_⟩; omega) | (simp; done) | (simp; omega))))
      refine DW.app rfl rfl rfl rfl (show slI Tryd.prog 28 = some (108, 3, 32) by simp only [go_sem]) rfl rfl (by simp only [go_sem, fu, map_getD cmdD _ _ _ hlt]) (by first | exact .inl rfl | exact .inr rfl) (by first | (simp only [go_sem, List.length_append, List.length_cons, List.length_nil] <;> omega) | (simp <;> omega)) (by first | (simp only [go_sem, List.length_append, List.length_cons, List.length_nil] <;> omega) | (simp <;> omega)) fun t1 ft1 => ?_
      try simp only [freshT] at ft1
      try simp only [go_sem, fu, map_getD cmdD _ _ _ hlt, ft1]
      (repeat (with_reducible refine And.intro ?_ ?_; (first | omega | (intro _; omega) | decide | (exact nfB) | (intro hg; refine ⟨hg, ?_⟩; omega) | (simp; done) | (simp; omega))))
      refine hK8 _ _ ?_
      try clear hK8 K8
      refine AWp.mask [true, true, true] rfl ?_
      simp only [go_sem]
      refine AWp.rk fun K9 hK9 => ?_
      try simp only [go_sem, fu, map_getD cmdD _ _ _ hlt, ft1]
      (repeat (with_reducible refine And.intro ?_ ?_; (first | omega | (intro _; omega) | decide | (exact nfB) | (intro hg; refine ⟨hg, ?_⟩; omega) | (simp; done) | (simp; omega))))
      refine DW.pcr rfl rfl rfl rfl (ih _ (List.getElem_mem hlt)) rfl rfl ?_
      try simp only [go_sem, fu, map_getD cmdD _ _ _ hlt, ft1]
      (repeat (with_reducible refine And.intro ?_ ?_; (first | omega | (intro _; omega) | decide | (exact nfB) | (intro hg; refine ⟨hg, ?_⟩; omega) | (simp; done) | (simp; omega))))
      refine DW.app rfl rfl rfl rfl (show slI Tryd.prog 28 = some (108, 3, 32) by simp only [go_sem]) rfl rfl (by simp only [go_sem, fu, map_getD cmdD _ _ _ hlt, ft1]) (by first | exact .inl rfl | exact .inr rfl) (by first | (simp only [go_sem, List.length_append, List.length_cons, List.length_nil] <;> omega) | (simp <;> omega)) (by first | (simp only [go_sem, List.length_append, List.length_cons, List.length_nil] <;> omega) | (simp <;> omega)) fun t2 ft2 => ?_
      try simp only [freshT] at ft2
      try simp only [go_sem, fu, map_getD cmdD _ _ _ hlt, ft1, ft2]
      (repeat (with_reducible refine And.intro ?_ ?_; (first | omega | (intro _; omega) | decide | (exact nfB) | (intro hg; refine ⟨hg, ?_⟩; omega) | (simp; done) | (simp; omega))))
      refine hK9 _ _ ?_
      try clear hK9 K9
      refine blkQ_n (thenQ_n ?_)
      refine hK7 _ _ ?_
      try clear hK7 K7
      refine AWp.mask [true, true, true] rfl ?_
      simp only [go_sem]
      refine AWp.rk fun K10 hK10 => ?_
      try simp only [go_sem, fu, map_getD cmdD _ _ _ hlt, ft1, ft2]
      (repeat (with_reducible refine And.intro ?_ ?_; (first | omega | (intro _; omega) | decide | (exact nfB) | (intro hg; refine ⟨hg, ?_⟩; omega) | (simp; done) | (simp; omega))))
      refine hK10 _ _ ?_
      try clear hK10 K10
      refine thenQ_n ?_
      refine EndS.mk [true] [false, true, true] [] [] [] [t2] rfl ?_ ?_
      · (try simp only [go_sem, fu, map_getD cmdD _ _ _ hlt, ft1, ft2]) <;> try rfl
      refine .e ⟨_, ?_, k + 1, t2, Y ++ tW (tabW cmdWs (l[k]'hlt).kind) :: cmT (l[k]'hlt), rfl, ?_, ?_, ?_, ?_⟩
      · first | omega | (simp; omega) | (grind)
      · (try simp only [go_sem, fu, map_getD cmdD _ _ _ hlt, ft1, ft2]) <;> first | exact ⟨rfl⟩ | (constructor; simp [toksD, tokD, tW])
      · (try simp only [go_sem, fu, map_getD cmdD _ _ _ hlt, ft1, ft2]) <;> first | exact ⟨rfl⟩ | (constructor; simp; done)
      · omega
      · rw [← hY, lsT_drop _ _ hlt]; simp
    · skip
      try simp only [decide_eq_true_eq, decide_eq_false_iff_not, Bool.not_eq_true', Bool.not_eq_false', Bool.and_eq_true, Bool.or_eq_true, Bool.and_eq_false_iff, Bool.or_eq_false_iff, Int.not_lt, Int.not_le, beq_iff_eq, beq_eq_false_iff_ne, ne_eq, Bool.not_eq_true, Bool.not_eq_false] at hc0
      refine AWp.exit ?_
      refine thenQ_e (thenQ_e (blkQ_e (thenQ_n ?_)))
      refine hK3 _ _ ?_
      try clear hK3 K3
      refine AWp.mask [false, true] rfl ?_
      simp only [go_sem]
      refine AWp.rs fun K11 hK11 => ?_
      try simp only [go_sem, fu]
      (repeat (with_reducible refine And.intro ?_ ?_; (first | omega | (intro _; omega) | decide | (exact nfB) | (intro hg; refine ⟨hg, ?_⟩; omega) | (simp; done) | (simp; omega))))
      refine hK11 _ _ ?_
      try clear hK11 K11
      refine AWp.ret ?_
      try simp only [go_sem, fu]
      have e : lsT l = Y := by rw [lsT_end _ _ (by omega), List.append_nil] at hY; exact hY.symm
      rw [e]
theorem restShown_c (T : Tbl) (c : Cmd) (ok : c.Ok) (d : Int) (hF : cF c d = 0) (hl : (cmT c).length ≤ 4398046511104) : PC Tryd.prog T 115 [.agg (cmdA c)] (.d (.slc 3 (toksD (cmT c)))) := by
  induction c using Cmd.ind generalizing d with
  | h c i1 i2 =>
    obtain ⟨s1, s2, s3, s4, s5, s6⟩ := ok.inv
    obtain ⟨hk, hok, _⟩ := cF_ok hF
    have kn : ∀ x d, cF x d = 0 → 1 ≤ x.kind ∧ x.kind ≤ 10 := fun x d h => by simpa [inB] using (cF_ok h).1
    have hT : c.kind = 2 → (cmT c).length = (tT c.test).length + ((lsT c.thn).length + ((elT c.els).length + 1) + 1) := fun h2 => by rw [cmT_eq, if_pos h2]; simp
    refine restShown_step T c ok d hF hl (fun h2 => ?_) (fun h2 he h0 => ?_) (fun h2 he h0 => ?_)
    · have := hT h2
      obtain ⟨_, ha, _, _⟩ := hok h2
      rw [thnD_eq]
      exact listShown_step T _ s3 (by omega) (fun x hx => kn x _ (ha x hx)) fun x hx => i1 x hx (s5 x hx) _ (ha x hx) (by have := lsT_mem _ _ hx; omega)
    · have := hT h2
      obtain ⟨_, _, _, ha⟩ := hok h2
      have ha := ha he
      rw [elT_f c he h0] at this
      simp only [List.length_cons, List.length_append, List.length_nil] at this
      rw [elsD_eq]
      exact listShown_step T _ s4 (by omega) (fun x hx => kn x _ (ha x hx)) fun x hx => i2 x hx (s6 x hx) _ (ha x hx) (by have := lsT_mem _ _ hx; omega)
    · have := hT h2
      obtain ⟨_, _, ha, _⟩ := hok h2
      rw [elT_t c he h0] at this
      simp only [List.length_cons, List.length_append, List.length_nil] at this
      have hm := List.getElem_mem h0
      exact i2 _ hm (s6 _ hm) _ (ha he _ hm) (by omega)
theorem listShown_c (T : Tbl) (l : List Cmd) (hll : l.length * 208 ≤ 140737488355328) (ok : ∀ x ∈ l, x.Ok) (d : Int) (hF : cFL l d = 0) (hl : (lsT l).length ≤ 4398046511104) : PC Tryd.prog T 59 [.d (.slc 12 (l.map cmdD))] (.d (.slc 3 (toksD (lsT l)))) :=
  listShown_step T l hll hl (fun x hx => by simpa [inB] using (cF_ok (cFL_mem _ _ hF x hx)).1) fun x hx => restShown_c T x (ok x hx) d (cFL_mem _ _ hF x hx) (by have := lsT_mem _ _ hx; omega)
/-- P5.6, of all commands -/
def chkE (l : List Cmd) : Int := if cFL l 0 = 0 then (if 400 < ((lsT l).length : Int) then 5 else 0) else cFL l 0
set_option maxRecDepth 4000 in
set_option maxHeartbeats 1000000 in
theorem cmdsFault_c (T : Tbl) (l : List Cmd) (hll : l.length * 208 ≤ 140737488355328) (ok : ∀ x ∈ l, x.Ok) (hl : (lsT l).length ≤ 4398046511104) : PC Tryd.prog T 17 [.d (.slc 12 (l.map cmdD))] (.d (.int .i64 (chkE l))) := by
  refine ⟨Tryd.call17, PCall.enterS Tryd.func17 rfl Tryd.ntmps17 rfl fun hb => ?_⟩
  simp only [go_sem, Tryd.results17]
  refine AWp.rs fun K1 hK1 => ?_
  try simp only [go_sem]
  (repeat (with_reducible refine And.intro ?_ ?_; (first | omega | (intro _; omega) | decide | (exact nfB) | (intro hg; refine ⟨hg, ?_⟩; omega) | (simp; done) | (simp; omega))))
  refine hK1 _ _ ?_
  try clear hK1 K1
  refine AWp.rs fun K2 hK2 => ?_
  try simp only [go_sem]
  (repeat (with_reducible refine And.intro ?_ ?_; (first | omega | (intro _; omega) | decide | (exact nfB) | (intro hg; refine ⟨hg, ?_⟩; omega) | (simp; done) | (simp; omega))))
  refine DW.pcr rfl rfl rfl rfl (listFault_c T _ hll ok _ (by omega) (by omega)) rfl rfl ?_
  try simp only [go_sem]
  (repeat (with_reducible refine And.intro ?_ ?_; (first | omega | (intro _; omega) | decide | (exact nfB) | (intro hg; refine ⟨hg, ?_⟩; omega) | (simp; done) | (simp; omega))))
  refine hK2 _ _ ?_
  try clear hK2 K2
  refine AWp.seq fun K3 hK3 => ?_
  refine AWp.rs fun K4 hK4 => ?_
  try simp only [go_sem]
  (repeat (with_reducible refine And.intro ?_ ?_; (first | omega | (intro _; omega) | decide | (exact nfB) | (intro hg; refine ⟨hg, ?_⟩; omega) | (simp; done) | (simp; omega))))
  refine DW.pcgr rfl rfl rfl rfl rfl (fun hg => listShown_c T l hll ok 0 (by simpa using hg) hl) (fun hg => by (try simp only [go_sem]) <;> first | exact hg | (simpa using hg) | grind) rfl rfl ?_
  try simp only [go_sem]
  (repeat (with_reducible refine And.intro ?_ ?_; (first | omega | (intro _; omega) | decide | (exact nfB) | (intro hg; refine ⟨hg, ?_⟩; omega) | (simp; done) | (simp; omega))))
  refine hK4 _ _ ?_
  try clear hK4 K4
  refine AWp.mask [false, false, true, false, false, false, false, false, false, false, false, false, true] rfl ?_
  simp only [go_sem]
  refine AWp.cond _ rfl (fun hc0 => ?_) (fun hc0 => ?_)
  · skip
    try simp only [decide_eq_true_eq, decide_eq_false_iff_not, Bool.not_eq_true', Bool.not_eq_false', Bool.and_eq_true, Bool.or_eq_true, Bool.and_eq_false_iff, Bool.or_eq_false_iff, Int.not_lt, Int.not_le, beq_iff_eq, beq_eq_false_iff_ne, ne_eq, Bool.not_eq_true, Bool.not_eq_false] at hc0
    refine AWp.rk fun K5 hK5 => ?_
    try simp only [go_sem]
    (repeat (with_reducible refine And.intro ?_ ?_; (first | omega | (intro _; omega) | decide | (exact nfB) | (intro hg; refine ⟨hg, ?_⟩; omega) | (simp; done) | (simp; omega))))
    refine hK5 _ _ ?_
    try clear hK5 K5
    refine thenQ_n ?_
    refine hK3 _ _ ?_
    try clear hK3 K3
    refine AWp.rs fun K6 hK6 => ?_
    try simp only [go_sem]
    (repeat (with_reducible refine And.intro ?_ ?_; (first | omega | (intro _; omega) | decide | (exact nfB) | (intro hg; refine ⟨hg, ?_⟩; omega) | (simp; done) | (simp; omega))))
    refine hK6 _ _ ?_
    try clear hK6 K6
    refine AWp.ret ?_
    try simp only [go_sem]
    first | (obtain ⟨g1, g2⟩ := hc0; rw [chkE, if_pos g1, if_pos g2]; done) | (rw [chkE]; split; (rcases hc0 with h | h; contradiction; rw [if_neg (by omega)]; assumption); rfl)
  · skip
    try simp only [decide_eq_true_eq, decide_eq_false_iff_not, Bool.not_eq_true', Bool.not_eq_false', Bool.and_eq_true, Bool.or_eq_true, Bool.and_eq_false_iff, Bool.or_eq_false_iff, Int.not_lt, Int.not_le, beq_iff_eq, beq_eq_false_iff_ne, ne_eq, Bool.not_eq_true, Bool.not_eq_false] at hc0
    refine AWp.skip ?_
    refine thenQ_n ?_
    refine hK3 _ _ ?_
    try clear hK3 K3
    refine AWp.rs fun K7 hK7 => ?_
    try simp only [go_sem]
    (repeat (with_reducible refine And.intro ?_ ?_; (first | omega | (intro _; omega) | decide | (exact nfB) | (intro hg; refine ⟨hg, ?_⟩; omega) | (simp; done) | (simp; omega))))
    refine hK7 _ _ ?_
    try clear hK7 K7
    refine AWp.ret ?_
    try simp only [go_sem]
    first | (obtain ⟨g1, g2⟩ := hc0; rw [chkE, if_pos g1, if_pos g2]; done) | (rw [chkE]; split; (rcases hc0 with h | h; contradiction; rw [if_neg (by omega)]; assumption); rfl)
set_option maxRecDepth 4000 in
set_option maxHeartbeats 1000000 in
theorem cmdsShown_c (T : Tbl) (l : List Cmd) (hll : l.length * 208 ≤ 140737488355328) (ok : ∀ x ∈ l, x.Ok) (hl : (lsT l).length ≤ 4398046511104) : PC Tryd.prog T 20 [.d (.slc 12 (l.map cmdD))] (.tup [.d (.slc 3 (toksD (if chkE l = 0 then lsT l else []))), .d (.int .i64 (chkE l))]) := by
  refine ⟨Tryd.call20, PCall.enterS Tryd.func20 rfl Tryd.ntmps20 rfl fun hb => ?_⟩
  simp only [go_sem, Tryd.results20]
  refine AWp.rs fun K1 hK1 => ?_
  try simp only [go_sem]
  (repeat (with_reducible refine And.intro ?_ ?_; (first | omega | (intro _; omega) | decide | (exact nfB) | (intro hg; refine ⟨hg, ?_⟩; omega) | (simp; done) | (simp; omega))))
  refine hK1 _ _ ?_
  try clear hK1 K1
  refine AWp.rs fun K2 hK2 => ?_
  try simp only [go_sem]
  (repeat (with_reducible refine And.intro ?_ ?_; (first | omega | (intro _; omega) | decide | (exact nfB) | (intro hg; refine ⟨hg, ?_⟩; omega) | (simp; done) | (simp; omega))))
  refine DW.pcr rfl rfl rfl rfl (cmdsFault_c T l hll ok hl) rfl rfl ?_
  try simp only [go_sem]
  (repeat (with_reducible refine And.intro ?_ ?_; (first | omega | (intro _; omega) | decide | (exact nfB) | (intro hg; refine ⟨hg, ?_⟩; omega) | (simp; done) | (simp; omega))))
  refine hK2 _ _ ?_
  try clear hK2 K2
  refine AWp.mask [true, false, false, true] rfl ?_
  simp only [go_sem]
  refine AWp.seq fun K3 hK3 => ?_
  refine AWp.rs fun K4 hK4 => ?_
  try simp only [go_sem]
  (repeat (with_reducible refine And.intro ?_ ?_; (first | omega | (intro _; omega) | decide | (exact nfB) | (intro hg; refine ⟨hg, ?_⟩; omega) | (simp; done) | (simp; omega))))
  refine hK4 _ _ ?_
  try clear hK4 K4
  refine AWp.cond _ rfl (fun hc0 => ?_) (fun hc0 => ?_)
  · skip
    try simp only [decide_eq_true_eq, decide_eq_false_iff_not, Bool.not_eq_true', Bool.not_eq_false', Bool.and_eq_true, Bool.or_eq_true, Bool.and_eq_false_iff, Bool.or_eq_false_iff, Int.not_lt, Int.not_le, beq_iff_eq, beq_eq_false_iff_ne, ne_eq, Bool.not_eq_true, Bool.not_eq_false] at hc0
    refine AWp.rs fun K5 hK5 => ?_
    try simp only [go_sem]
    (repeat (with_reducible refine And.intro ?_ ?_; (first | omega | (intro _; omega) | decide | (exact nfB) | (intro hg; refine ⟨hg, ?_⟩; omega) | (simp; done) | (simp; omega))))
    refine hK5 _ _ ?_
    try clear hK5 K5
    refine AWp.mask [false, true, true] rfl ?_
    simp only [go_sem]
    refine AWp.ret ?_
    try simp only [go_sem]
    simp [hc0, toksD]
  · skip
    try simp only [decide_eq_true_eq, decide_eq_false_iff_not, Bool.not_eq_true', Bool.not_eq_false', Bool.and_eq_true, Bool.or_eq_true, Bool.and_eq_false_iff, Bool.or_eq_false_iff, Int.not_lt, Int.not_le, beq_iff_eq, beq_eq_false_iff_ne, ne_eq, Bool.not_eq_true, Bool.not_eq_false] at hc0
    have h0 : cFL l 0 = 0 := by rw [chkE] at hc0; split at hc0; assumption; contradiction
    refine AWp.skip ?_
    refine thenQ_n ?_
    refine hK3 _ _ ?_
    try clear hK3 K3
    refine AWp.rs fun K6 hK6 => ?_
    try simp only [go_sem]
    (repeat (with_reducible refine And.intro ?_ ?_; (first | omega | (intro _; omega) | decide | (exact nfB) | (intro hg; refine ⟨hg, ?_⟩; omega) | (simp; done) | (simp; omega))))
    refine DW.pcr rfl rfl rfl rfl (listShown_c T l hll ok 0 h0 hl) rfl rfl ?_
    try simp only [go_sem]
    (repeat (with_reducible refine And.intro ?_ ?_; (first | omega | (intro _; omega) | decide | (exact nfB) | (intro hg; refine ⟨hg, ?_⟩; omega) | (simp; done) | (simp; omega))))
    refine hK6 _ _ ?_
    try clear hK6 K6
    refine AWp.mask [false, true, true] rfl ?_
    simp only [go_sem]
    refine AWp.ret ?_
    try simp only [go_sem]
    simp [hc0]
end Go.Proofs.YtnoboapafndnlaaDoor

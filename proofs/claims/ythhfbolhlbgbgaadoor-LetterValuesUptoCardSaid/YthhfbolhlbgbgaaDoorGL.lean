/- Texts that the laws rest on, packed. -/
import Derived.Test.YthhfbolhlbgbgaaDoorGX
import Derived.Test.YthhfbolhlbgbgaaDoorGC
namespace Go.Proofs.YthhfbolhlbgbgaaDoor
set_option linter.unusedSimpArgs false
set_option linter.unusedVariables false
/-- blanks -/
def isBl (c : UInt8) : Bool := decide ((c.toNat : Int) = 32) || decide ((c.toNat : Int) = 9)
/-- bytes of a field's name -/
def nmB (c : UInt8) : Bool := (decide (33 ≤ (c.toNat : Int)) && decide ((c.toNat : Int) ≤ 126)) && !decide ((c.toNat : Int) = 58)
def nmL (s : Tx) : Bool := decide (0 < (s.length : Int)) && s.all nmB
theorem nmL_f {s : Tx} {i : Nat} (hi : i < s.length) (hc : nmB (s.getD i 0) = false) : nmL s = false := by
  unfold nmL
  rw [Bool.and_eq_false_iff]
  refine .inr ?_
  rw [Bool.eq_false_iff]
  intro ha
  have := List.all_eq_true.1 ha (s.getD i 0) (by simp [List.getD, hi])
  rw [hc] at this; cases this
theorem nmL_end {s : Tx} {i : Nat} (hi : s.length ≤ i) (ha : (s.drop i).all nmB = true → s.all nmB = true) : nmL s = decide (0 < (s.length : Int)) := by
  unfold nmL
  rw [ha (by rw [drop_none hi]; rfl), Bool.and_true]
theorem nmL_step {s : Tx} {i : Nat} (hi : i < s.length) (hc : nmB (s.getD i 0) = true) (h : (s.drop i).all nmB = true → s.all nmB = true) : (s.drop (i + 1)).all nmB = true → s.all nmB = true := fun h2 => h (by rw [drop_cons hi, List.all_cons, hc, h2]; rfl)
def trimL : Tx → Tx
  | [] => []
  | c :: r => if isBl c = true then trimL r else c :: r
def trimR : Tx → Tx
  | [] => []
  | c :: r => match trimR r with
    | [] => if isBl c = true then [] else [c]
    | x :: y => c :: x :: y
def trimS (s : Tx) : Tx := trimL (trimR s)
theorem trimR_cons (c : UInt8) (r : Tx) : trimR (c :: r) = if trimR r = [] then (if isBl c = true then [] else [c]) else c :: trimR r := by
  rw [trimR]
  cases trimR r <;> simp
theorem trim_comm : ∀ s : Tx, trimR (trimL s) = trimS s
  | [] => rfl
  | c :: r => by
    have ih := trim_comm r
    unfold trimS at ih ⊢
    by_cases hc : isBl c = true
    · rw [trimL, if_pos hc, ih, trimR_cons]
      by_cases hr : trimR r = []
      · rw [if_pos hr, if_pos hc, hr]
      · rw [if_neg hr, trimL, if_pos hc]
    · rw [trimL, if_neg hc, trimR_cons]
      by_cases hr : trimR r = []
      · rw [if_pos hr, if_neg hc, trimL, if_neg hc]
      · rw [if_neg hr, trimL, if_neg hc]
theorem trimL_drop {s : Tx} (h : 0 < s.length) (hc : isBl (s.getD 0 0) = true) : trimL (s.drop 1) = trimL s := by
  cases s with
  | nil => simp at h
  | cons c r =>
    have hc : isBl c = true := hc
    rw [show (c :: r).drop 1 = r from rfl, trimL, if_pos hc]
theorem trimL_stop {s : Tx} (h : 0 < s.length → isBl (s.getD 0 0) = false) : trimL s = s := by
  cases s with
  | nil => rfl
  | cons c r =>
    have hc : isBl c = false := h (by simp)
    rw [trimL, if_neg (by simp [hc])]
theorem trimR_snoc : ∀ (s : Tx) (c : UInt8), trimR (s ++ [c]) = if isBl c = true then trimR s else s ++ [c]
  | [], c => by simp [trimR]
  | x :: s, c => by
    rw [List.cons_append, trimR_cons, trimR_snoc s c]
    by_cases hc : isBl c = true
    · rw [if_pos hc, if_pos hc, trimR_cons]
    · rw [if_neg hc, if_neg hc, if_neg (by simp)]
theorem snoc_get {s : Tx} (h : 0 < s.length) : s = s.take (s.length - 1) ++ [s.getD (s.length - 1) 0] := by
  have h1 : s.take (s.length - 1 + 1) = s.take (s.length - 1) ++ [s.getD (s.length - 1) 0] := by
    rw [List.take_add_one]; simp [List.getD, List.getElem?_eq_getElem (show s.length - 1 < s.length by omega)]
  rw [show s.length - 1 + 1 = s.length by omega, List.take_length] at h1
  exact h1
theorem trimR_take {s : Tx} (h : 0 < s.length) (hc : isBl (s.getD (s.length - 1) 0) = true) : trimR (s.take (s.length - 1)) = trimR s := by
  have h1 : trimR s = trimR (s.take (s.length - 1) ++ [s.getD (s.length - 1) 0]) := congrArg trimR (snoc_get h)
  rw [h1, trimR_snoc, if_pos hc]
theorem trimR_stop {s : Tx} (h : 0 < s.length → isBl (s.getD (s.length - 1) 0) = false) : trimR s = s := by
  rcases Nat.eq_zero_or_pos s.length with h0 | h0
  · rw [List.eq_nil_of_length_eq_zero h0]; rfl
  · have h1 : trimR s = trimR (s.take (s.length - 1) ++ [s.getD (s.length - 1) 0]) := congrArg trimR (snoc_get h0)
    rw [h1, trimR_snoc, if_neg (by rw [h h0]; exact Bool.false_ne_true), ← snoc_get h0]
theorem trimL_len : ∀ s : Tx, (trimL s).length ≤ s.length
  | [] => Nat.le_refl _
  | c :: r => by
    rw [trimL]
    have := trimL_len r
    split
    · simp; omega
    · simp
theorem trimR_len : ∀ s : Tx, (trimR s).length ≤ s.length
  | [] => Nat.le_refl _
  | c :: r => by
    rw [trimR_cons]
    have := trimR_len r
    split
    · split <;> simp
    · simp; omega
theorem trimS_len (s : Tx) : (trimS s).length ≤ s.length := Nat.le_trans (trimL_len _) (trimR_len s)
/-- a line's end, from a place on -/
def elI (s : Tx) (i : Nat) : Int := if Lib.index (s.drop i) [13, 10] < 0 then -1 else Lib.index (s.drop i) [13, 10] + i
/-- a colon, from a place on -/
def coI (s : Tx) (i : Nat) : Int := if Lib.index (s.drop i) [58] < 0 then -1 else Lib.index (s.drop i) [58] + i
theorem u8eq {c : UInt8} {n : Nat} (h : n < 256) : (UInt8.ofNat n = c) ↔ ((c.toNat : Int) = n) := by
  constructor
  · rintro rfl; rw [UInt8.toNat_ofNat']; omega
  · intro e
    apply UInt8.toNat_inj.1
    rw [UInt8.toNat_ofNat']; omega
theorem pre13 {a c : UInt8} {r : Tx} : List.isPrefixOf [13, 10] (a :: c :: r) = true ↔ ((a.toNat : Int) = 13 ∧ (c.toNat : Int) = 10) := by
  simp only [List.isPrefixOf, Bool.and_true, Bool.and_eq_true, beq_iff_eq]
  have h1 : ((13 : UInt8) = a) ↔ ((a.toNat : Int) = 13) := u8eq (n := 13) (by decide)
  have h2 : ((10 : UInt8) = c) ↔ ((c.toNat : Int) = 10) := u8eq (n := 10) (by decide)
  rw [h1, h2]
theorem pre58 {a : UInt8} {r : Tx} : List.isPrefixOf [58] (a :: r) = true ↔ ((a.toNat : Int) = 58) := by
  simp only [List.isPrefixOf, Bool.and_true, beq_iff_eq]
  exact u8eq (n := 58) (by decide)
theorem index_cons (a : UInt8) (r sub : Tx) : Lib.index (a :: r) sub = if sub.isPrefixOf (a :: r) = true then 0 else if Lib.index r sub < 0 then -1 else Lib.index r sub + 1 := by
  rw [Lib.index]
  by_cases h : sub.isPrefixOf (a :: r) = true
  · rw [if_pos h, if_pos h]
  · rw [if_neg h, if_neg h]
    have := Lib.index_ge r sub
    by_cases h2 : Lib.index r sub = -1
    · rw [h2]; rfl
    · rw [if_neg (by simpa using h2), if_neg (by omega)]
theorem two_drop {s : Tx} {i : Nat} (h : i + 1 < s.length) : s.drop i = s.getD i 0 :: s.getD (i + 1) 0 :: s.drop (i + 2) := by
  rw [drop_cons (by omega), drop_cons (j := i + 1) h]
theorem el_hit {s : Tx} {i : Nat} (h : i + 1 < s.length) (h1 : ((s.getD i 0).toNat : Int) = 13) (h2 : ((s.getD (i + 1) 0).toNat : Int) = 10) : elI s i = i := by
  unfold elI
  rw [two_drop h, index_cons, if_pos (pre13.2 ⟨h1, h2⟩)]
  simp
theorem el_step {s : Tx} {i : Nat} (h : i + 1 < s.length) (hn : ¬ (((s.getD i 0).toNat : Int) = 13 ∧ ((s.getD (i + 1) 0).toNat : Int) = 10)) : elI s (i + 1) = elI s i := by
  unfold elI
  rw [two_drop h, index_cons, if_neg (fun e => hn (pre13.1 e)), ← drop_cons (j := i + 1) h]
  have := Lib.index_ge (s.drop (i + 1)) [13, 10]
  split <;> split <;> omega
theorem el_end {s : Tx} {i : Nat} (h : s.length ≤ i + 1) : elI s i = -1 := by
  unfold elI
  have : Lib.index (s.drop i) [13, 10] < 0 := by
    rcases Nat.lt_or_ge i s.length with h2 | h2
    · rw [drop_cons h2, drop_none (j := i + 1) (by omega), index_cons]
      simp [List.isPrefixOf, Lib.index]
    · rw [drop_none h2]; simp [Lib.index]
  rw [if_pos this]
theorem co_hit {s : Tx} {i : Nat} (h : i < s.length) (h1 : ((s.getD i 0).toNat : Int) = 58) : coI s i = i := by
  unfold coI
  rw [drop_cons h, index_cons, if_pos (pre58.2 h1)]
  simp
theorem co_step {s : Tx} {i : Nat} (h : i < s.length) (hn : ¬ ((s.getD i 0).toNat : Int) = 58) : coI s (i + 1) = coI s i := by
  unfold coI
  rw [drop_cons h, index_cons, if_neg (fun e => hn (pre58.1 e))]
  have := Lib.index_ge (s.drop (i + 1)) [58]
  split <;> split <;> omega
theorem co_end {s : Tx} {i : Nat} (h : s.length ≤ i) : coI s i = -1 := by
  unfold coI
  rw [drop_none h]; simp [Lib.index]
set_option maxRecDepth 4000 in
set_option maxHeartbeats 1000000 in
theorem fname_c (T : Tbl) (s : Tx) (hb0 : s.length ≤ 9223372036854775807) : PC Tryd.prog T 76 [.d (.str s)] (.d (.bool (nmL s))) := by
  refine ⟨Tryd.call76, PCall.enterS Tryd.func76 rfl Tryd.ntmps76 rfl fun hb => ?_⟩
  simp only [go_sem, Tryd.results76]
  refine AWp.rs fun K1 hK1 => ?_
  try simp only [go_sem, icast]
  refine hK1 _ _ ?_
  try clear hK1 K1
  refine AWp.seq fun K2 hK2 => ?_
  refine AWp.rs fun K3 hK3 => ?_
  try simp only [go_sem, icast]
  refine hK3 _ _ ?_
  try clear hK3 K3
  refine AWp.block ?_
  refine AWp.mask [true, false, false, true, true] rfl ?_
  simp only [go_sem]
  refine AWp.loopS [true, true] [false, false, true] (fun n lc hc => ∃ (i : Nat), n = s.length - i ∧ EqS lc [(6, .d (.int .i64 i))] ∧ EqS hc (⟨[], []⟩) ∧ (i ≤ s.length) ∧ ((s.drop i).all nmB = true → s.all nmB = true)) rfl ?_ ?_
  · refine ⟨_, 0, rfl, ?_, ?_, ?_, ?_⟩
    · (try simp only [go_sem, icast]) <;> first | exact ⟨rfl⟩ | (constructor; simp; done)
    · (try simp only [go_sem, icast]) <;> first | exact ⟨rfl⟩ | (constructor; simp; done)
    all_goals (first | omega | (simp; done))
  · rintro _ _ _ ⟨i, rfl, ⟨rfl⟩, ⟨rfl⟩, h1, h2⟩
    simp only [go_sem]
    refine AWp.rs fun K4 hK4 => ?_
    try simp only [go_sem, icast]
    refine hK4 _ _ ?_
    try clear hK4 K4
    refine AWp.seq fun K5 hK5 => ?_
    refine AWp.cond _ rfl (fun hc0 => ?_) (fun hc0 => ?_)
    · skip
      try simp only [decide_eq_true_eq, decide_eq_false_iff_not, Bool.not_eq_true', Bool.not_eq_false', Bool.and_eq_true, Bool.or_eq_true, Bool.and_eq_false_iff, Bool.or_eq_false_iff, Int.not_lt, Int.not_le, beq_iff_eq, beq_eq_false_iff_ne, ne_eq, Bool.not_eq_true, Bool.not_eq_false] at hc0
      have hlt : i < s.length := by omega
      refine AWp.skip ?_
      refine thenQ_n ?_
      refine hK5 _ _ ?_
      try clear hK5 K5
      refine AWp.seq fun K6 hK6 => ?_
      refine AWp.block ?_
      refine AWp.rs fun K7 hK7 => ?_
      try simp only [go_sem, icast]
      refine hK7 _ _ ?_
      try clear hK7 K7
      refine AWp.rs fun K8 hK8 => ?_
      try simp only [go_sem, icast]
      (repeat (with_reducible refine And.intro ?_ ?_; (first | omega | (exact nfB) | (intro hg; refine ⟨hg, ?_⟩; omega))))
      refine hK8 _ _ ?_
      try clear hK8 K8
      refine AWp.mask [true, false, true, true, false, false, false, false, false, false, false, false, false, false, false, false, false, false, false, false, false, true] rfl ?_
      simp only [go_sem]
      refine AWp.cond _ rfl (fun hc1 => ?_) (fun hc1 => ?_)
      · skip
        try simp only [decide_eq_true_eq, decide_eq_false_iff_not, Bool.not_eq_true', Bool.not_eq_false', Bool.and_eq_true, Bool.or_eq_true, Bool.and_eq_false_iff, Bool.or_eq_false_iff, Int.not_lt, Int.not_le, beq_iff_eq, beq_eq_false_iff_ne, ne_eq, Bool.not_eq_true, Bool.not_eq_false] at hc1
        have hcc : nmB (s.getD i 0) = false := by
          unfold nmB
          simp only [Bool.and_eq_false_iff, decide_eq_false_iff_not, Bool.not_eq_false', decide_eq_true_eq]
          omega
        refine AWp.rs fun K9 hK9 => ?_
        try simp only [go_sem, icast]
        refine hK9 _ _ ?_
        try clear hK9 K9
        refine AWp.mask [false, true] rfl ?_
        simp only [go_sem]
        refine AWp.ret ?_
        try simp only [go_sem, icast]
        rw [nmL_f hlt hcc]
      · skip
        try simp only [decide_eq_true_eq, decide_eq_false_iff_not, Bool.not_eq_true', Bool.not_eq_false', Bool.and_eq_true, Bool.or_eq_true, Bool.and_eq_false_iff, Bool.or_eq_false_iff, Int.not_lt, Int.not_le, beq_iff_eq, beq_eq_false_iff_ne, ne_eq, Bool.not_eq_true, Bool.not_eq_false] at hc1
        have hcc : nmB (s.getD i 0) = true := by
          unfold nmB
          simp only [Bool.and_eq_true, decide_eq_true_eq, Bool.not_eq_true', decide_eq_false_iff_not]
          omega
        refine AWp.skip ?_
        refine blkQ_n (thenQ_n ?_)
        refine hK6 _ _ ?_
        try clear hK6 K6
        refine AWp.rk fun K10 hK10 => ?_
        try simp only [go_sem, icast]
        (repeat (with_reducible refine And.intro ?_ ?_; omega))
        refine hK10 _ _ ?_
        try clear hK10 K10
        refine thenQ_n ?_
        refine EndS.mkr [true, true] [false, false, true] rfl ?_ ?_
        · (try simp only [go_sem, icast]) <;> try rfl
        refine .e ⟨_, ?_, i + 1, rfl, ?_, ?_, ?_, ?_⟩
        · first | omega | (simp; omega) | (grind)
        · (try simp only [go_sem, icast]) <;> first | exact ⟨rfl⟩ | (constructor; simp; done)
        · (try simp only [go_sem, icast]) <;> first | exact ⟨rfl⟩ | (constructor; simp; done)
        · omega
        · exact nmL_step hlt hcc h2
    · skip
      try simp only [decide_eq_true_eq, decide_eq_false_iff_not, Bool.not_eq_true', Bool.not_eq_false', Bool.and_eq_true, Bool.or_eq_true, Bool.and_eq_false_iff, Bool.or_eq_false_iff, Int.not_lt, Int.not_le, beq_iff_eq, beq_eq_false_iff_ne, ne_eq, Bool.not_eq_true, Bool.not_eq_false] at hc0
      refine AWp.exit ?_
      refine thenQ_e (thenQ_e (blkQ_e (thenQ_n ?_)))
      refine hK2 _ _ ?_
      try clear hK2 K2
      refine AWp.rs fun K11 hK11 => ?_
      try simp only [go_sem, icast]
      refine hK11 _ _ ?_
      try clear hK11 K11
      refine AWp.mask [false, true] rfl ?_
      simp only [go_sem]
      refine AWp.ret ?_
      try simp only [go_sem, icast]
      rw [nmL_end (by omega) h2]
set_option maxRecDepth 4000 in
set_option maxHeartbeats 1000000 in
theorem nameMay_c (T : Tbl) (s : Tx) (hb0 : s.length ≤ 9223372036854775807) : PC Tryd.prog T 80 [.d (.str s)] (.d (.bool (nmL s))) := by
  refine ⟨Tryd.call80, PCall.enterS Tryd.func80 rfl Tryd.ntmps80 rfl fun hb => ?_⟩
  simp only [go_sem, Tryd.results80]
  refine AWp.rs fun K1 hK1 => ?_
  try simp only [go_sem, icast]
  refine hK1 _ _ ?_
  try clear hK1 K1
  refine AWp.seq fun K2 hK2 => ?_
  refine AWp.rs fun K3 hK3 => ?_
  try simp only [go_sem, icast]
  refine hK3 _ _ ?_
  try clear hK3 K3
  refine AWp.cond _ rfl (fun hc0 => ?_) (fun hc0 => ?_)
  · skip
    try simp only [decide_eq_true_eq, decide_eq_false_iff_not, Bool.not_eq_true', Bool.not_eq_false', Bool.and_eq_true, Bool.or_eq_true, Bool.and_eq_false_iff, Bool.or_eq_false_iff, Int.not_lt, Int.not_le, beq_iff_eq, beq_eq_false_iff_ne, ne_eq, Bool.not_eq_true, Bool.not_eq_false] at hc0
    refine AWp.rs fun K4 hK4 => ?_
    try simp only [go_sem, icast]
    refine hK4 _ _ ?_
    try clear hK4 K4
    refine AWp.mask [false, true] rfl ?_
    simp only [go_sem]
    refine AWp.ret ?_
    try simp only [go_sem, icast]
    have h0 : s = [] := List.eq_nil_of_length_eq_zero (by omega)
    subst h0
    simp [LeA, LeD, nmL]
  · skip
    try simp only [decide_eq_true_eq, decide_eq_false_iff_not, Bool.not_eq_true', Bool.not_eq_false', Bool.and_eq_true, Bool.or_eq_true, Bool.and_eq_false_iff, Bool.or_eq_false_iff, Int.not_lt, Int.not_le, beq_iff_eq, beq_eq_false_iff_ne, ne_eq, Bool.not_eq_true, Bool.not_eq_false] at hc0
    have hp : 0 < s.length := by omega
    refine AWp.skip ?_
    refine thenQ_n ?_
    refine hK2 _ _ ?_
    try clear hK2 K2
    refine AWp.mask [true] rfl ?_
    simp only [go_sem]
    refine AWp.seq fun K5 hK5 => ?_
    refine AWp.rs fun K6 hK6 => ?_
    try simp only [go_sem, icast]
    refine hK6 _ _ ?_
    try clear hK6 K6
    refine AWp.block ?_
    refine AWp.loopS [true] [false, true] (fun n lc hc => ∃ (i : Nat), n = s.length - i ∧ EqS lc [(3, .d (.int .i64 i))] ∧ EqS hc (⟨[], []⟩) ∧ (i ≤ s.length) ∧ ((s.drop i).all nmB = true → s.all nmB = true)) rfl ?_ ?_
    · refine ⟨_, 0, rfl, ?_, ?_, ?_, ?_⟩
      · (try simp only [go_sem, icast]) <;> first | exact ⟨rfl⟩ | (constructor; simp; done)
      · (try simp only [go_sem, icast]) <;> first | exact ⟨rfl⟩ | (constructor; simp; done)
      all_goals (first | omega | (simp; done))
    · rintro _ _ _ ⟨i, rfl, ⟨rfl⟩, ⟨rfl⟩, h1, h2⟩
      simp only [go_sem]
      refine AWp.seq fun K7 hK7 => ?_
      refine AWp.rs fun K8 hK8 => ?_
      try simp only [go_sem, icast]
      refine hK8 _ _ ?_
      try clear hK8 K8
      refine AWp.cond _ rfl (fun hc1 => ?_) (fun hc1 => ?_)
      · skip
        try simp only [decide_eq_true_eq, decide_eq_false_iff_not, Bool.not_eq_true', Bool.not_eq_false', Bool.and_eq_true, Bool.or_eq_true, Bool.and_eq_false_iff, Bool.or_eq_false_iff, Int.not_lt, Int.not_le, beq_iff_eq, beq_eq_false_iff_ne, ne_eq, Bool.not_eq_true, Bool.not_eq_false] at hc1
        have hlt : i < s.length := by omega
        refine AWp.skip ?_
        refine thenQ_n ?_
        refine hK7 _ _ ?_
        try clear hK7 K7
        refine AWp.mask [true, true] rfl ?_
        simp only [go_sem]
        refine AWp.seq fun K9 hK9 => ?_
        refine AWp.block ?_
        refine AWp.rs fun K10 hK10 => ?_
        try simp only [go_sem, icast]
        (repeat (with_reducible refine And.intro ?_ ?_; omega))
        refine DW.pcr rfl rfl rfl rfl (In_c T _ _ _) rfl rfl ?_
        try simp only [go_sem, icast]
        (repeat (with_reducible refine And.intro ?_ ?_; (first | (exact nfB) | (intro hg; refine ⟨hg, ?_⟩; omega))))
        refine hK10 _ _ ?_
        try clear hK10 K10
        refine AWp.mask [true, true, false, false, false, false, false, false, false, false, false, false, false, true] rfl ?_
        simp only [go_sem]
        refine AWp.cond _ rfl (fun hc2 => ?_) (fun hc2 => ?_)
        · skip
          try simp only [decide_eq_true_eq, decide_eq_false_iff_not, Bool.not_eq_true', Bool.not_eq_false', Bool.and_eq_true, Bool.or_eq_true, Bool.and_eq_false_iff, Bool.or_eq_false_iff, Int.not_lt, Int.not_le, beq_iff_eq, beq_eq_false_iff_ne, ne_eq, Bool.not_eq_true, Bool.not_eq_false] at hc2
          have hcc : nmB (s.getD i 0) = false := by
            unfold nmB
            simp only [Bool.and_eq_false_iff, decide_eq_false_iff_not, Bool.not_eq_false', decide_eq_true_eq]
            omega
          refine AWp.rs fun K11 hK11 => ?_
          try simp only [go_sem, icast]
          refine hK11 _ _ ?_
          try clear hK11 K11
          refine AWp.ret ?_
          try simp only [go_sem, icast]
          rw [nmL_f hlt hcc]
        · skip
          try simp only [decide_eq_true_eq, decide_eq_false_iff_not, Bool.not_eq_true', Bool.not_eq_false', Bool.and_eq_true, Bool.or_eq_true, Bool.and_eq_false_iff, Bool.or_eq_false_iff, Int.not_lt, Int.not_le, beq_iff_eq, beq_eq_false_iff_ne, ne_eq, Bool.not_eq_true, Bool.not_eq_false] at hc2
          have hcc : nmB (s.getD i 0) = true := by
            unfold nmB
            simp only [Bool.and_eq_true, decide_eq_true_eq, Bool.not_eq_true', decide_eq_false_iff_not]
            omega
          refine AWp.skip ?_
          refine blkQ_n (thenQ_n ?_)
          refine hK9 _ _ ?_
          try clear hK9 K9
          refine AWp.rk fun K12 hK12 => ?_
          try simp only [go_sem, icast]
          (repeat (with_reducible refine And.intro ?_ ?_; omega))
          refine hK12 _ _ ?_
          try clear hK12 K12
          refine thenQ_n ?_
          refine EndS.mkr [true] [false, true] rfl ?_ ?_
          · (try simp only [go_sem, icast]) <;> try rfl
          refine .e ⟨_, ?_, i + 1, rfl, ?_, ?_, ?_, ?_⟩
          · first | omega | (simp; omega) | (grind)
          · (try simp only [go_sem, icast]) <;> first | exact ⟨rfl⟩ | (constructor; simp; done)
          · (try simp only [go_sem, icast]) <;> first | exact ⟨rfl⟩ | (constructor; simp; done)
          · omega
          · exact nmL_step hlt hcc h2
      · skip
        try simp only [decide_eq_true_eq, decide_eq_false_iff_not, Bool.not_eq_true', Bool.not_eq_false', Bool.and_eq_true, Bool.or_eq_true, Bool.and_eq_false_iff, Bool.or_eq_false_iff, Int.not_lt, Int.not_le, beq_iff_eq, beq_eq_false_iff_ne, ne_eq, Bool.not_eq_true, Bool.not_eq_false] at hc1
        refine AWp.exit ?_
        refine thenQ_e (thenQ_e (blkQ_e (thenQ_n ?_)))
        refine hK5 _ _ ?_
        try clear hK5 K5
        refine AWp.mask [] rfl ?_
        simp only [go_sem]
        refine AWp.rs fun K13 hK13 => ?_
        try simp only [go_sem, icast]
        refine hK13 _ _ ?_
        try clear hK13 K13
        refine AWp.ret ?_
        try simp only [go_sem, icast]
        rw [nmL_end (by omega) h2]; simp [LeA, LeD]; omega
set_option maxRecDepth 4000 in
set_option maxHeartbeats 1000000 in
theorem lblank_c (T : Tbl) (c : UInt8) : PC Tryd.prog T 78 [.d (.int .u8 (c.toNat : Int))] (.d (.bool (isBl c))) := by
  refine ⟨Tryd.call78, PCall.enterS Tryd.func78 rfl Tryd.ntmps78 rfl fun hb => ?_⟩
  simp only [go_sem, Tryd.results78]
  refine AWp.rs fun K1 hK1 => ?_
  try simp only [go_sem]
  refine hK1 _ _ ?_
  try clear hK1 K1
  refine AWp.rs fun K2 hK2 => ?_
  try simp only [go_sem]
  (repeat (with_reducible refine And.intro ?_ ?_; (exact nfB)))
  refine hK2 _ _ ?_
  try clear hK2 K2
  refine AWp.mask [false, true] rfl ?_
  simp only [go_sem]
  refine AWp.ret ?_
  try simp only [go_sem]
  try simp [LeA, LeD, isBl]
theorem nlen1 {n : Nat} (h : 0 < n) : ((n : Nat) : Int) - 1 = ((n - 1 : Nat) : Int) := by omega
theorem gt0T {n : Nat} (h : 0 < n) : ((0 : Int) < (n : Int)) = True := by simp [h]
theorem gt0F {n : Nat} (h : n = 0) : ((0 : Int) < (n : Int)) = False := by simp [h]
theorem natT (n : Nat) : ((n : Nat) : Int).toNat = n := rfl
set_option maxRecDepth 4000 in
set_option maxHeartbeats 1000000 in
theorem trimmed_c (T : Tbl) (s : Tx) (hs : s.length ≤ 2000000) : PC Tryd.prog T 81 [.d (.str s)] (.d (.str (trimS s))) := by
  refine ⟨Tryd.call81, PCall.enterS Tryd.func81 rfl Tryd.ntmps81 rfl fun hb => ?_⟩
  simp only [go_sem, Tryd.results81]
  refine AWp.rs fun K1 hK1 => ?_
  try simp only [go_sem, icast, natT, List.take_length]
  refine hK1 _ _ ?_
  try clear hK1 K1
  refine AWp.seq fun K2 hK2 => ?_
  refine AWp.block ?_
  refine AWp.mask [true] rfl ?_
  simp only [go_sem]
  refine AWp.loopS [] [true] (fun n lc hc => ∃ (q : Tx), n = q.length ∧ EqS lc [(0, .d (.str q))] ∧ EqS hc (⟨[], []⟩) ∧ (trimL q = trimL s) ∧ (q.length ≤ s.length)) rfl ?_ ?_
  · refine ⟨_, s, rfl, ?_, ?_, ?_, ?_⟩
    · (try simp only [go_sem, icast, natT, List.take_length]) <;> first | exact ⟨rfl⟩ | (constructor; simp; done)
    · (try simp only [go_sem, icast, natT, List.take_length]) <;> first | exact ⟨rfl⟩ | (constructor; simp; done)
    all_goals (first | rfl | omega)
  · rintro _ _ _ ⟨q, rfl, ⟨rfl⟩, ⟨rfl⟩, h1, h2⟩
    simp only [go_sem]
    refine AWp.seq fun K3 hK3 => ?_
    rcases Nat.eq_zero_or_pos q.length with hz | hz
    · skip
      refine AWp.rs fun K4 hK4 => ?_
      try simp only [go_sem, icast, natT, List.take_length, gt0F hz]
      (repeat (with_reducible refine And.intro ?_ ?_; decide))
      refine DW.pcgr rfl rfl rfl rfl rfl (fun hg => lblank_c T _) (fun hg => by (try simp only [go_sem, icast, natT, List.take_length, gt0F hz]) <;> first | exact hg | (exfalso; simp at hg; done) | (simpa using hg) | grind) rfl rfl ?_
      try simp only [go_sem, icast, natT, List.take_length, gt0F hz]
      refine hK4 _ _ ?_
      try clear hK4 K4
      refine AWp.mask [true, false, false, false, false, false, false, false, true] rfl ?_
      simp only [go_sem]
      refine AWp.cond _ rfl (fun hc0 => ?_) (fun hc0 => ?_)
      · skip
        exact absurd hc0 (by simp)
      · skip
        try simp only [decide_eq_true_eq, decide_eq_false_iff_not, Bool.not_eq_true', Bool.not_eq_false', Bool.and_eq_true, Bool.or_eq_true, Bool.and_eq_false_iff, Bool.or_eq_false_iff, Int.not_lt, Int.not_le, beq_iff_eq, beq_eq_false_iff_ne, ne_eq, Bool.not_eq_true, Bool.not_eq_false] at hc0
        have hq : trimL s = q := by rw [← h1]; exact trimL_stop (fun hp => by first | omega | simpa using hc0)
        refine AWp.exit ?_
        refine thenQ_e (thenQ_e (blkQ_e (thenQ_n ?_)))
        refine hK2 _ _ ?_
        try clear hK2 K2
        refine AWp.seq fun K5 hK5 => ?_
        refine AWp.block ?_
        refine AWp.mask [true] rfl ?_
        simp only [go_sem]
        refine AWp.loopS [] [true] (fun n lc hc => ∃ (q2 : Tx), n = q2.length ∧ EqS lc [(0, .d (.str q2))] ∧ EqS hc (⟨[], []⟩) ∧ (trimR q2 = trimS s) ∧ (q2.length ≤ s.length)) rfl ?_ ?_
        · refine ⟨_, q, rfl, ?_, ?_, ?_, ?_⟩
          · (try simp only [go_sem, icast, natT, List.take_length, gt0F hz]) <;> first | exact ⟨rfl⟩ | (constructor; simp; done)
          · (try simp only [go_sem, icast, natT, List.take_length, gt0F hz]) <;> first | exact ⟨rfl⟩ | (constructor; simp; done)
          all_goals (first | (rw [← trim_comm, hq]; done) | omega)
        · rintro _ _ _ ⟨q2, rfl, ⟨rfl⟩, ⟨rfl⟩, g1, g2⟩
          simp only [go_sem]
          refine AWp.seq fun K6 hK6 => ?_
          rcases Nat.eq_zero_or_pos q2.length with hz2 | hz2
          · skip
            refine AWp.rs fun K7 hK7 => ?_
            try simp only [go_sem, icast, natT, List.take_length, gt0F hz, gt0F hz2, decide_false, Bool.false_eq_true, false_implies, true_and]
            refine DW.pcgr rfl rfl rfl rfl rfl (fun hg => lblank_c T _) (fun hg => by (try simp only [go_sem, icast, natT, List.take_length, gt0F hz, gt0F hz2, decide_false, Bool.false_eq_true, false_implies, true_and]) <;> first | exact hg | (exfalso; simp at hg; done) | (simpa using hg) | grind) rfl rfl ?_
            try simp only [go_sem, icast, natT, List.take_length, gt0F hz, gt0F hz2, decide_false, Bool.false_eq_true, false_implies, true_and]
            refine hK7 _ _ ?_
            try clear hK7 K7
            refine AWp.mask [true, false, false, false, false, false, false, false, false, false, false, true] rfl ?_
            simp only [go_sem]
            refine AWp.cond _ rfl (fun hc1 => ?_) (fun hc1 => ?_)
            · skip
              exact absurd hc1 (by simp)
            · skip
              try simp only [decide_eq_true_eq, decide_eq_false_iff_not, Bool.not_eq_true', Bool.not_eq_false', Bool.and_eq_true, Bool.or_eq_true, Bool.and_eq_false_iff, Bool.or_eq_false_iff, Int.not_lt, Int.not_le, beq_iff_eq, beq_eq_false_iff_ne, ne_eq, Bool.not_eq_true, Bool.not_eq_false] at hc1
              have hq2 : trimS s = q2 := by rw [← g1]; exact trimR_stop (fun hp => by first | omega | simpa using hc1)
              refine AWp.exit ?_
              refine thenQ_e (thenQ_e (blkQ_e (thenQ_n ?_)))
              refine hK5 _ _ ?_
              try clear hK5 K5
              refine AWp.rs fun K8 hK8 => ?_
              try simp only [go_sem, icast, natT, List.take_length, gt0F hz, gt0F hz2, decide_false, Bool.false_eq_true, false_implies, true_and]
              refine hK8 _ _ ?_
              try clear hK8 K8
              refine AWp.ret ?_
              try simp only [go_sem, icast, natT, List.take_length, gt0F hz, gt0F hz2, decide_false, Bool.false_eq_true, false_implies, true_and]
              rw [hq2]
          · skip
            refine AWp.rs fun K7 hK7 => ?_
            try simp only [go_sem, icast, natT, List.take_length, gt0F hz, gt0T hz2, nlen1 hz2]
            (repeat (with_reducible refine And.intro ?_ ?_; (intro hg; refine ⟨hg, ?_⟩; omega)))
            refine DW.pcgr rfl rfl rfl rfl rfl (fun hg => lblank_c T _) (fun hg => by (try simp only [go_sem, icast, natT, List.take_length, gt0F hz, gt0T hz2, nlen1 hz2]) <;> first | exact hg | (exfalso; simp at hg; done) | (simpa using hg) | grind) rfl rfl ?_
            try simp only [go_sem, icast, natT, List.take_length, gt0F hz, gt0T hz2, nlen1 hz2]
            refine hK7 _ _ ?_
            try clear hK7 K7
            refine AWp.mask [true, false, false, false, false, false, false, false, false, false, false, true] rfl ?_
            simp only [go_sem]
            refine AWp.cond _ rfl (fun hc1 => ?_) (fun hc1 => ?_)
            · skip
              try simp only [decide_eq_true_eq, decide_eq_false_iff_not, Bool.not_eq_true', Bool.not_eq_false', Bool.and_eq_true, Bool.or_eq_true, Bool.and_eq_false_iff, Bool.or_eq_false_iff, Int.not_lt, Int.not_le, beq_iff_eq, beq_eq_false_iff_ne, ne_eq, Bool.not_eq_true, Bool.not_eq_false] at hc1
              refine AWp.skip ?_
              refine thenQ_n ?_
              refine hK6 _ _ ?_
              try clear hK6 K6
              refine AWp.block ?_
              refine AWp.rk fun K9 hK9 => ?_
              try simp only [go_sem, icast, natT, List.take_length, gt0F hz, gt0T hz2, nlen1 hz2]
              (repeat (with_reducible refine And.intro ?_ ?_; omega))
              refine hK9 _ _ ?_
              try clear hK9 K9
              refine blkQ_n (thenQ_n ?_)
              refine EndS.mkr [] [true] rfl ?_ ?_
              · (try simp only [go_sem, icast, natT, List.take_length, gt0F hz, gt0T hz2, nlen1 hz2]) <;> try rfl
              refine .e ⟨_, ?_, (q2.take (q2.length - 1)), rfl, ?_, ?_, ?_, ?_⟩
              · first | omega | (simp; omega) | (simp; omega)
              · (try simp only [go_sem, icast, natT, List.take_length, gt0F hz, gt0T hz2, nlen1 hz2]) <;> first | exact ⟨rfl⟩ | (constructor; simp; done)
              · (try simp only [go_sem, icast, natT, List.take_length, gt0F hz, gt0T hz2, nlen1 hz2]) <;> first | exact ⟨rfl⟩ | (constructor; simp; done)
              · rw [trimR_take hz2 (by simpa using hc1)]; exact g1
              · simp; omega
            · skip
              try simp only [decide_eq_true_eq, decide_eq_false_iff_not, Bool.not_eq_true', Bool.not_eq_false', Bool.and_eq_true, Bool.or_eq_true, Bool.and_eq_false_iff, Bool.or_eq_false_iff, Int.not_lt, Int.not_le, beq_iff_eq, beq_eq_false_iff_ne, ne_eq, Bool.not_eq_true, Bool.not_eq_false] at hc1
              have hq2 : trimS s = q2 := by rw [← g1]; exact trimR_stop (fun hp => by first | omega | simpa using hc1)
              refine AWp.exit ?_
              refine thenQ_e (thenQ_e (blkQ_e (thenQ_n ?_)))
              refine hK5 _ _ ?_
              try clear hK5 K5
              refine AWp.rs fun K10 hK10 => ?_
              try simp only [go_sem, icast, natT, List.take_length, gt0F hz, gt0T hz2, nlen1 hz2]
              refine hK10 _ _ ?_
              try clear hK10 K10
              refine AWp.ret ?_
              try simp only [go_sem, icast, natT, List.take_length, gt0F hz, gt0T hz2, nlen1 hz2]
              rw [hq2]
    · skip
      refine AWp.rs fun K4 hK4 => ?_
      try simp only [go_sem, icast, natT, List.take_length, gt0T hz, nlen1 hz]
      (repeat (with_reducible refine And.intro ?_ ?_; decide))
      refine DW.pcgr rfl rfl rfl rfl rfl (fun hg => lblank_c T _) (fun hg => by (try simp only [go_sem, icast, natT, List.take_length, gt0T hz, nlen1 hz]) <;> first | exact hg | (exfalso; simp at hg; done) | (simpa using hg) | grind) rfl rfl ?_
      try simp only [go_sem, icast, natT, List.take_length, gt0T hz, nlen1 hz]
      refine hK4 _ _ ?_
      try clear hK4 K4
      refine AWp.mask [true, false, false, false, false, false, false, false, true] rfl ?_
      simp only [go_sem]
      refine AWp.cond _ rfl (fun hc0 => ?_) (fun hc0 => ?_)
      · skip
        try simp only [decide_eq_true_eq, decide_eq_false_iff_not, Bool.not_eq_true', Bool.not_eq_false', Bool.and_eq_true, Bool.or_eq_true, Bool.and_eq_false_iff, Bool.or_eq_false_iff, Int.not_lt, Int.not_le, beq_iff_eq, beq_eq_false_iff_ne, ne_eq, Bool.not_eq_true, Bool.not_eq_false] at hc0
        refine AWp.skip ?_
        refine thenQ_n ?_
        refine hK3 _ _ ?_
        try clear hK3 K3
        refine AWp.block ?_
        refine AWp.rk fun K11 hK11 => ?_
        try simp only [go_sem, icast, natT, List.take_length, gt0T hz, nlen1 hz]
        (repeat (with_reducible refine And.intro ?_ ?_; omega))
        refine hK11 _ _ ?_
        try clear hK11 K11
        refine blkQ_n (thenQ_n ?_)
        refine EndS.mkr [] [true] rfl ?_ ?_
        · (try simp only [go_sem, icast, natT, List.take_length, gt0T hz, nlen1 hz]) <;> try rfl
        refine .e ⟨_, ?_, (q.drop 1), rfl, ?_, ?_, ?_, ?_⟩
        · first | omega | (simp; omega) | (simp; omega)
        · (try simp only [go_sem, icast, natT, List.take_length, gt0T hz, nlen1 hz]) <;> first | exact ⟨rfl⟩ | (constructor; simp; done)
        · (try simp only [go_sem, icast, natT, List.take_length, gt0T hz, nlen1 hz]) <;> first | exact ⟨rfl⟩ | (constructor; simp; done)
        · rw [trimL_drop hz (by simpa using hc0)]; exact h1
        · simp; omega
      · skip
        try simp only [decide_eq_true_eq, decide_eq_false_iff_not, Bool.not_eq_true', Bool.not_eq_false', Bool.and_eq_true, Bool.or_eq_true, Bool.and_eq_false_iff, Bool.or_eq_false_iff, Int.not_lt, Int.not_le, beq_iff_eq, beq_eq_false_iff_ne, ne_eq, Bool.not_eq_true, Bool.not_eq_false] at hc0
        have hq : trimL s = q := by rw [← h1]; exact trimL_stop (fun hp => by first | omega | simpa using hc0)
        refine AWp.exit ?_
        refine thenQ_e (thenQ_e (blkQ_e (thenQ_n ?_)))
        refine hK2 _ _ ?_
        try clear hK2 K2
        refine AWp.seq fun K12 hK12 => ?_
        refine AWp.block ?_
        refine AWp.mask [true] rfl ?_
        simp only [go_sem]
        refine AWp.loopS [] [true] (fun n lc hc => ∃ (q2 : Tx), n = q2.length ∧ EqS lc [(0, .d (.str q2))] ∧ EqS hc (⟨[], []⟩) ∧ (trimR q2 = trimS s) ∧ (q2.length ≤ s.length)) rfl ?_ ?_
        · refine ⟨_, q, rfl, ?_, ?_, ?_, ?_⟩
          · (try simp only [go_sem, icast, natT, List.take_length, gt0T hz, nlen1 hz]) <;> first | exact ⟨rfl⟩ | (constructor; simp; done)
          · (try simp only [go_sem, icast, natT, List.take_length, gt0T hz, nlen1 hz]) <;> first | exact ⟨rfl⟩ | (constructor; simp; done)
          all_goals (first | (rw [← trim_comm, hq]; done) | omega)
        · rintro _ _ _ ⟨q2, rfl, ⟨rfl⟩, ⟨rfl⟩, g1, g2⟩
          simp only [go_sem]
          refine AWp.seq fun K13 hK13 => ?_
          rcases Nat.eq_zero_or_pos q2.length with hz2 | hz2
          · skip
            refine AWp.rs fun K14 hK14 => ?_
            try simp only [go_sem, icast, natT, List.take_length, gt0T hz, nlen1 hz, gt0F hz2, decide_false, Bool.false_eq_true, false_implies, true_and]
            refine DW.pcgr rfl rfl rfl rfl rfl (fun hg => lblank_c T _) (fun hg => by (try simp only [go_sem, icast, natT, List.take_length, gt0T hz, nlen1 hz, gt0F hz2, decide_false, Bool.false_eq_true, false_implies, true_and]) <;> first | exact hg | (exfalso; simp at hg; done) | (simpa using hg) | grind) rfl rfl ?_
            try simp only [go_sem, icast, natT, List.take_length, gt0T hz, nlen1 hz, gt0F hz2, decide_false, Bool.false_eq_true, false_implies, true_and]
            refine hK14 _ _ ?_
            try clear hK14 K14
            refine AWp.mask [true, false, false, false, false, false, false, false, false, false, false, true] rfl ?_
            simp only [go_sem]
            refine AWp.cond _ rfl (fun hc1 => ?_) (fun hc1 => ?_)
            · skip
              exact absurd hc1 (by simp)
            · skip
              try simp only [decide_eq_true_eq, decide_eq_false_iff_not, Bool.not_eq_true', Bool.not_eq_false', Bool.and_eq_true, Bool.or_eq_true, Bool.and_eq_false_iff, Bool.or_eq_false_iff, Int.not_lt, Int.not_le, beq_iff_eq, beq_eq_false_iff_ne, ne_eq, Bool.not_eq_true, Bool.not_eq_false] at hc1
              have hq2 : trimS s = q2 := by rw [← g1]; exact trimR_stop (fun hp => by first | omega | simpa using hc1)
              refine AWp.exit ?_
              refine thenQ_e (thenQ_e (blkQ_e (thenQ_n ?_)))
              refine hK12 _ _ ?_
              try clear hK12 K12
              refine AWp.rs fun K15 hK15 => ?_
              try simp only [go_sem, icast, natT, List.take_length, gt0T hz, nlen1 hz, gt0F hz2, decide_false, Bool.false_eq_true, false_implies, true_and]
              refine hK15 _ _ ?_
              try clear hK15 K15
              refine AWp.ret ?_
              try simp only [go_sem, icast, natT, List.take_length, gt0T hz, nlen1 hz, gt0F hz2, decide_false, Bool.false_eq_true, false_implies, true_and]
              rw [hq2]
          · skip
            refine AWp.rs fun K14 hK14 => ?_
            try simp only [go_sem, icast, natT, List.take_length, gt0T hz, nlen1 hz, gt0T hz2, nlen1 hz2]
            (repeat (with_reducible refine And.intro ?_ ?_; (intro hg; refine ⟨hg, ?_⟩; omega)))
            refine DW.pcgr rfl rfl rfl rfl rfl (fun hg => lblank_c T _) (fun hg => by (try simp only [go_sem, icast, natT, List.take_length, gt0T hz, nlen1 hz, gt0T hz2, nlen1 hz2]) <;> first | exact hg | (exfalso; simp at hg; done) | (simpa using hg) | grind) rfl rfl ?_
            try simp only [go_sem, icast, natT, List.take_length, gt0T hz, nlen1 hz, gt0T hz2, nlen1 hz2]
            refine hK14 _ _ ?_
            try clear hK14 K14
            refine AWp.mask [true, false, false, false, false, false, false, false, false, false, false, true] rfl ?_
            simp only [go_sem]
            refine AWp.cond _ rfl (fun hc1 => ?_) (fun hc1 => ?_)
            · skip
              try simp only [decide_eq_true_eq, decide_eq_false_iff_not, Bool.not_eq_true', Bool.not_eq_false', Bool.and_eq_true, Bool.or_eq_true, Bool.and_eq_false_iff, Bool.or_eq_false_iff, Int.not_lt, Int.not_le, beq_iff_eq, beq_eq_false_iff_ne, ne_eq, Bool.not_eq_true, Bool.not_eq_false] at hc1
              refine AWp.skip ?_
              refine thenQ_n ?_
              refine hK13 _ _ ?_
              try clear hK13 K13
              refine AWp.block ?_
              refine AWp.rk fun K16 hK16 => ?_
              try simp only [go_sem, icast, natT, List.take_length, gt0T hz, nlen1 hz, gt0T hz2, nlen1 hz2]
              (repeat (with_reducible refine And.intro ?_ ?_; omega))
              refine hK16 _ _ ?_
              try clear hK16 K16
              refine blkQ_n (thenQ_n ?_)
              refine EndS.mkr [] [true] rfl ?_ ?_
              · (try simp only [go_sem, icast, natT, List.take_length, gt0T hz, nlen1 hz, gt0T hz2, nlen1 hz2]) <;> try rfl
              refine .e ⟨_, ?_, (q2.take (q2.length - 1)), rfl, ?_, ?_, ?_, ?_⟩
              · first | omega | (simp; omega) | (simp; omega)
              · (try simp only [go_sem, icast, natT, List.take_length, gt0T hz, nlen1 hz, gt0T hz2, nlen1 hz2]) <;> first | exact ⟨rfl⟩ | (constructor; simp; done)
              · (try simp only [go_sem, icast, natT, List.take_length, gt0T hz, nlen1 hz, gt0T hz2, nlen1 hz2]) <;> first | exact ⟨rfl⟩ | (constructor; simp; done)
              · rw [trimR_take hz2 (by simpa using hc1)]; exact g1
              · simp; omega
            · skip
              try simp only [decide_eq_true_eq, decide_eq_false_iff_not, Bool.not_eq_true', Bool.not_eq_false', Bool.and_eq_true, Bool.or_eq_true, Bool.and_eq_false_iff, Bool.or_eq_false_iff, Int.not_lt, Int.not_le, beq_iff_eq, beq_eq_false_iff_ne, ne_eq, Bool.not_eq_true, Bool.not_eq_false] at hc1
              have hq2 : trimS s = q2 := by rw [← g1]; exact trimR_stop (fun hp => by first | omega | simpa using hc1)
              refine AWp.exit ?_
              refine thenQ_e (thenQ_e (blkQ_e (thenQ_n ?_)))
              refine hK12 _ _ ?_
              try clear hK12 K12
              refine AWp.rs fun K17 hK17 => ?_
              try simp only [go_sem, icast, natT, List.take_length, gt0T hz, nlen1 hz, gt0T hz2, nlen1 hz2]
              refine hK17 _ _ ?_
              try clear hK17 K17
              refine AWp.ret ?_
              try simp only [go_sem, icast, natT, List.take_length, gt0T hz, nlen1 hz, gt0T hz2, nlen1 hz2]
              rw [hq2]
set_option maxRecDepth 4000 in
set_option maxHeartbeats 1000000 in
theorem lineEnd_c (T : Tbl) (s : Tx) (f : Nat) (hs : s.length ≤ 2000000) (hf : f ≤ 2000000) : PC Tryd.prog T 77 [.d (.str s), .d (.int .i64 (f : Nat))] (.d (.int .i64 (elI s f))) := by
  refine ⟨Tryd.call77, PCall.enterS Tryd.func77 rfl Tryd.ntmps77 rfl fun hb => ?_⟩
  simp only [go_sem, Tryd.results77]
  refine AWp.rs fun K1 hK1 => ?_
  try simp only [go_sem, icast]
  refine hK1 _ _ ?_
  try clear hK1 K1
  refine AWp.seq fun K2 hK2 => ?_
  refine AWp.rs fun K3 hK3 => ?_
  try simp only [go_sem, icast]
  refine hK3 _ _ ?_
  try clear hK3 K3
  refine AWp.block ?_
  refine AWp.mask [true, false, false, true] rfl ?_
  simp only [go_sem]
  refine AWp.loopS [true] [false, true] (fun n lc hc => ∃ (i : Nat), n = s.length - i ∧ EqS lc [(5, .d (.int .i64 i))] ∧ EqS hc (⟨[], []⟩) ∧ (elI s i = elI s f) ∧ (i ≤ s.length + f)) rfl ?_ ?_
  · refine ⟨_, f, rfl, ?_, ?_, ?_, ?_⟩
    · (try simp only [go_sem, icast]) <;> first | exact ⟨rfl⟩ | (constructor; simp; done)
    · (try simp only [go_sem, icast]) <;> first | exact ⟨rfl⟩ | (constructor; simp; done)
    all_goals (first | rfl | omega)
  · rintro _ _ _ ⟨i, rfl, ⟨rfl⟩, ⟨rfl⟩, h1, h2⟩
    simp only [go_sem]
    refine AWp.seq fun K4 hK4 => ?_
    refine AWp.rs fun K5 hK5 => ?_
    try simp only [go_sem, icast]
    (repeat (with_reducible refine And.intro ?_ ?_; omega))
    refine hK5 _ _ ?_
    try clear hK5 K5
    refine AWp.mask [true, true, false, false, false, false, true] rfl ?_
    simp only [go_sem]
    refine AWp.cond _ rfl (fun hc0 => ?_) (fun hc0 => ?_)
    · skip
      try simp only [decide_eq_true_eq, decide_eq_false_iff_not, Bool.not_eq_true', Bool.not_eq_false', Bool.and_eq_true, Bool.or_eq_true, Bool.and_eq_false_iff, Bool.or_eq_false_iff, Int.not_lt, Int.not_le, beq_iff_eq, beq_eq_false_iff_ne, ne_eq, Bool.not_eq_true, Bool.not_eq_false] at hc0
      have hlt : i + 1 < s.length := by omega
      refine AWp.skip ?_
      refine thenQ_n ?_
      refine hK4 _ _ ?_
      try clear hK4 K4
      refine AWp.seq fun K6 hK6 => ?_
      refine AWp.block ?_
      refine AWp.rs fun K7 hK7 => ?_
      try simp only [go_sem, icast]
      (repeat (with_reducible refine And.intro ?_ ?_; (first | omega | (intro hg; refine ⟨hg, ?_⟩; omega))))
      refine hK7 _ _ ?_
      try clear hK7 K7
      refine AWp.mask [true, true, false, false, false, false, false, false, false, false, false, false, false, true] rfl ?_
      simp only [go_sem]
      refine AWp.cond _ rfl (fun hc1 => ?_) (fun hc1 => ?_)
      · skip
        try simp only [decide_eq_true_eq, decide_eq_false_iff_not, Bool.not_eq_true', Bool.not_eq_false', Bool.and_eq_true, Bool.or_eq_true, Bool.and_eq_false_iff, Bool.or_eq_false_iff, Int.not_lt, Int.not_le, beq_iff_eq, beq_eq_false_iff_ne, ne_eq, Bool.not_eq_true, Bool.not_eq_false] at hc1
        refine AWp.rs fun K8 hK8 => ?_
        try simp only [go_sem, icast]
        refine hK8 _ _ ?_
        try clear hK8 K8
        refine AWp.mask [false, true] rfl ?_
        simp only [go_sem]
        refine AWp.ret ?_
        try simp only [go_sem, icast]
        rw [← h1, el_hit hlt hc1.1 hc1.2]
      · skip
        try simp only [decide_eq_true_eq, decide_eq_false_iff_not, Bool.not_eq_true', Bool.not_eq_false', Bool.and_eq_true, Bool.or_eq_true, Bool.and_eq_false_iff, Bool.or_eq_false_iff, Int.not_lt, Int.not_le, beq_iff_eq, beq_eq_false_iff_ne, ne_eq, Bool.not_eq_true, Bool.not_eq_false] at hc1
        refine AWp.skip ?_
        refine blkQ_n (thenQ_n ?_)
        refine hK6 _ _ ?_
        try clear hK6 K6
        refine AWp.rk fun K9 hK9 => ?_
        try simp only [go_sem, icast]
        (repeat (with_reducible refine And.intro ?_ ?_; omega))
        refine hK9 _ _ ?_
        try clear hK9 K9
        refine thenQ_n ?_
        refine EndS.mkr [true] [false, true] rfl ?_ ?_
        · (try simp only [go_sem, icast]) <;> try rfl
        refine .e ⟨_, ?_, i + 1, rfl, ?_, ?_, ?_, ?_⟩
        · first | omega | (simp; omega) | (grind)
        · (try simp only [go_sem, icast]) <;> first | exact ⟨rfl⟩ | (constructor; simp; done)
        · (try simp only [go_sem, icast]) <;> first | exact ⟨rfl⟩ | (constructor; simp; done)
        · rw [el_step (by omega) (by omega)]; exact h1
        · omega
    · skip
      try simp only [decide_eq_true_eq, decide_eq_false_iff_not, Bool.not_eq_true', Bool.not_eq_false', Bool.and_eq_true, Bool.or_eq_true, Bool.and_eq_false_iff, Bool.or_eq_false_iff, Int.not_lt, Int.not_le, beq_iff_eq, beq_eq_false_iff_ne, ne_eq, Bool.not_eq_true, Bool.not_eq_false] at hc0
      refine AWp.exit ?_
      refine thenQ_e (thenQ_e (blkQ_e (thenQ_n ?_)))
      refine hK2 _ _ ?_
      try clear hK2 K2
      refine AWp.rs fun K10 hK10 => ?_
      try simp only [go_sem, icast]
      refine hK10 _ _ ?_
      try clear hK10 K10
      refine AWp.ret ?_
      try simp only [go_sem, icast]
      rw [← h1, el_end (by omega)]
set_option maxRecDepth 4000 in
set_option maxHeartbeats 1000000 in
theorem colonAt_c (T : Tbl) (s : Tx) (hs : s.length ≤ 2000000) : PC Tryd.prog T 79 [.d (.str s)] (.d (.int .i64 (coI s 0))) := by
  refine ⟨Tryd.call79, PCall.enterS Tryd.func79 rfl Tryd.ntmps79 rfl fun hb => ?_⟩
  simp only [go_sem, Tryd.results79]
  refine AWp.rs fun K1 hK1 => ?_
  try simp only [go_sem, icast]
  refine hK1 _ _ ?_
  try clear hK1 K1
  refine AWp.seq fun K2 hK2 => ?_
  refine AWp.rs fun K3 hK3 => ?_
  try simp only [go_sem, icast]
  refine hK3 _ _ ?_
  try clear hK3 K3
  refine AWp.block ?_
  refine AWp.mask [true, false, true] rfl ?_
  simp only [go_sem]
  refine AWp.loopS [true] [false, true] (fun n lc hc => ∃ (i : Nat), n = s.length - i ∧ EqS lc [(3, .d (.int .i64 i))] ∧ EqS hc (⟨[], []⟩) ∧ (coI s i = coI s 0) ∧ (i ≤ s.length)) rfl ?_ ?_
  · refine ⟨_, 0, rfl, ?_, ?_, ?_, ?_⟩
    · (try simp only [go_sem, icast]) <;> first | exact ⟨rfl⟩ | (constructor; simp; done)
    · (try simp only [go_sem, icast]) <;> first | exact ⟨rfl⟩ | (constructor; simp; done)
    all_goals (first | rfl | omega)
  · rintro _ _ _ ⟨i, rfl, ⟨rfl⟩, ⟨rfl⟩, h1, h2⟩
    simp only [go_sem]
    refine AWp.seq fun K4 hK4 => ?_
    refine AWp.rs fun K5 hK5 => ?_
    try simp only [go_sem, icast]
    refine hK5 _ _ ?_
    try clear hK5 K5
    refine AWp.cond _ rfl (fun hc0 => ?_) (fun hc0 => ?_)
    · skip
      try simp only [decide_eq_true_eq, decide_eq_false_iff_not, Bool.not_eq_true', Bool.not_eq_false', Bool.and_eq_true, Bool.or_eq_true, Bool.and_eq_false_iff, Bool.or_eq_false_iff, Int.not_lt, Int.not_le, beq_iff_eq, beq_eq_false_iff_ne, ne_eq, Bool.not_eq_true, Bool.not_eq_false] at hc0
      have hlt : i < s.length := by omega
      refine AWp.skip ?_
      refine thenQ_n ?_
      refine hK4 _ _ ?_
      try clear hK4 K4
      refine AWp.mask [true, true] rfl ?_
      simp only [go_sem]
      refine AWp.seq fun K6 hK6 => ?_
      refine AWp.block ?_
      refine AWp.rs fun K7 hK7 => ?_
      try simp only [go_sem, icast]
      (repeat (with_reducible refine And.intro ?_ ?_; omega))
      refine hK7 _ _ ?_
      try clear hK7 K7
      refine AWp.cond _ rfl (fun hc1 => ?_) (fun hc1 => ?_)
      · skip
        try simp only [decide_eq_true_eq, decide_eq_false_iff_not, Bool.not_eq_true', Bool.not_eq_false', Bool.and_eq_true, Bool.or_eq_true, Bool.and_eq_false_iff, Bool.or_eq_false_iff, Int.not_lt, Int.not_le, beq_iff_eq, beq_eq_false_iff_ne, ne_eq, Bool.not_eq_true, Bool.not_eq_false] at hc1
        refine AWp.rs fun K8 hK8 => ?_
        try simp only [go_sem, icast]
        refine hK8 _ _ ?_
        try clear hK8 K8
        refine AWp.mask [false, true] rfl ?_
        simp only [go_sem]
        refine AWp.ret ?_
        try simp only [go_sem, icast]
        rw [← h1, co_hit hlt hc1]
      · skip
        try simp only [decide_eq_true_eq, decide_eq_false_iff_not, Bool.not_eq_true', Bool.not_eq_false', Bool.and_eq_true, Bool.or_eq_true, Bool.and_eq_false_iff, Bool.or_eq_false_iff, Int.not_lt, Int.not_le, beq_iff_eq, beq_eq_false_iff_ne, ne_eq, Bool.not_eq_true, Bool.not_eq_false] at hc1
        refine AWp.skip ?_
        refine blkQ_n (thenQ_n ?_)
        refine hK6 _ _ ?_
        try clear hK6 K6
        refine AWp.mask [true, true] rfl ?_
        simp only [go_sem]
        refine AWp.rk fun K9 hK9 => ?_
        try simp only [go_sem, icast]
        (repeat (with_reducible refine And.intro ?_ ?_; omega))
        refine hK9 _ _ ?_
        try clear hK9 K9
        refine thenQ_n ?_
        refine EndS.mkr [true] [false, true] rfl ?_ ?_
        · (try simp only [go_sem, icast]) <;> try rfl
        refine .e ⟨_, ?_, i + 1, rfl, ?_, ?_, ?_, ?_⟩
        · first | omega | (simp; omega) | (grind)
        · (try simp only [go_sem, icast]) <;> first | exact ⟨rfl⟩ | (constructor; simp; done)
        · (try simp only [go_sem, icast]) <;> first | exact ⟨rfl⟩ | (constructor; simp; done)
        · rw [co_step hlt hc1]; exact h1
        · omega
    · skip
      try simp only [decide_eq_true_eq, decide_eq_false_iff_not, Bool.not_eq_true', Bool.not_eq_false', Bool.and_eq_true, Bool.or_eq_true, Bool.and_eq_false_iff, Bool.or_eq_false_iff, Int.not_lt, Int.not_le, beq_iff_eq, beq_eq_false_iff_ne, ne_eq, Bool.not_eq_true, Bool.not_eq_false] at hc0
      refine AWp.exit ?_
      refine thenQ_e (thenQ_e (blkQ_e (thenQ_n ?_)))
      refine hK2 _ _ ?_
      try clear hK2 K2
      refine AWp.mask [] rfl ?_
      simp only [go_sem]
      refine AWp.rs fun K10 hK10 => ?_
      try simp only [go_sem, icast]
      refine hK10 _ _ ?_
      try clear hK10 K10
      refine AWp.ret ?_
      try simp only [go_sem, icast]
      rw [← h1, co_end (by omega)]
open Go.RowKit
theorem Cut_p (T : Tbl) (hL : LibT T) (s sep : Tx) (h1 : s.length ≤ 1048576) : PC Tryd.prog T 74 [.d (.str s), .d (.str sep)] (.tup [.d (.str (Lib.cut s sep).1), .d (.str (Lib.cut s sep).2.1), .d (.bool (Lib.cut s sep).2.2)]) := PC.old Tryd.call74 fun F w vs hF hT R => by
  obtain ⟨v, u, rfl, hv, hu⟩ := slr2 R
  obtain ⟨t, rfl, e1, _⟩ := hv.str_inv
  obtain ⟨t2, rfl, e2, _⟩ := hu.str_inv
  obtain ⟨_, m, hm⟩ := hL.lib0 hF hT
  subst e1 e2
  have hsz : t.size ≤ 1048576 := by rw [← size_data]; exact h1
  refine (Tryd.strings_Cut t t2 m w (by omega) hm).mono ?_
  rintro e w' ⟨rfl, k, rfl⟩
  have hl1 : (Lib.cut t.data.toList t2.data.toList).1.length ≤ maxLen := by
    unfold Lib.cut; split
    · simp only [List.length_take]; rw [size_data]; unfold maxLen; omega
    · rw [size_data]; unfold maxLen; omega
  have hl2 : (Lib.cut t.data.toList t2.data.toList).2.1.length ≤ maxLen := by
    unfold Lib.cut; split
    · simp only [List.length_drop]; rw [size_data]; unfold maxLen; omega
    · simp
  refine ⟨_, rfl, below_drewN (Below.refl _ _) k, ?_⟩
  refine VR.tup [.d (.str (Lib.cut t.data.toList t2.data.toList).1), .d (.str (Lib.cut t.data.toList t2.data.toList).2.1), .d (.bool (Lib.cut t.data.toList t2.data.toList).2.2)] [_, _, _] rfl fun i a v ha hv => ?_
  match i, ha, hv with
  | 0, ha, hv => simp at ha hv; subst ha hv; exact .d (VD.bstr _ hl1)
  | 1, ha, hv => simp at ha hv; subst ha hv; exact .d (VD.bstr _ hl2)
  | 2, ha, hv => simp at ha hv; subst ha hv; exact .d (.bool _)
  | i + 3, ha, hv => simp at ha
theorem Cut_no (T : Tbl) (hL : LibT T) (s sep : Tx) (h1 : s.length ≤ 1048576) (h : Lib.index s sep < 0) : PC Tryd.prog T 74 [.d (.str s), .d (.str sep)] (.tup [.d (.str s), .d (.str []), .d (.bool false)]) := by
  have := Cut_p T hL s sep h1
  rwa [show Lib.cut s sep = (s, [], false) from if_neg (by omega)] at this
theorem Cut_yes (T : Tbl) (hL : LibT T) (s sep : Tx) (h1 : s.length ≤ 1048576) (e : Nat) (h : Lib.index s sep = e) : PC Tryd.prog T 74 [.d (.str s), .d (.str sep)] (.tup [.d (.str (s.take e)), .d (.str (s.drop (e + sep.length))), .d (.bool true)]) := by
  have := Cut_p T hL s sep h1
  rwa [show Lib.cut s sep = (s.take e, s.drop (e + sep.length), true) from by unfold Lib.cut; rw [h, if_pos (by omega)]; rfl] at this
end Go.Proofs.YthhfbolhlbgbgaaDoor

namespace Go.Proofs.YthhfbolhlbgbgaaDoor
set_option linter.unusedSimpArgs false
set_option linter.unusedVariables false
/-- is a byte among some? -/
def memB (s : Tx) (i : Nat) : Bool := s.any fun c => c.toNat == i
def ascH (s : Tx) : AV := .d (.bool (memB s 0))
def ascT (s : Tx) : List AV := (List.range 255).map fun i => .d (.bool (memB s (i + 1)))
theorem asc_row (s : Tx) : ascH s :: ascT s = (List.range 256).map fun i => AV.d (.bool (memB s i)) := by
  rw [show (256 : Nat) = 255 + 1 from rfl, List.range_succ_eq_map]
  simp [ascH, ascT]
@[go_sem] theorem ascT_len (s : Tx) : (ascT s).length = 255 := by simp [ascT]
theorem u8le (c : UInt8) : (c.toNat + 1 ≤ 256) = True := by have := c.toNat_lt; simp; omega
theorem asc_get (s : Tx) (c : UInt8) : ((ascH s :: ascT s).drop c.toNat).take 1 = [.d (.bool (memB s c.toNat))] := by
  have hc := c.toNat_lt
  rw [asc_row, ← List.map_drop, ← List.map_take, List.drop_eq_getElem_cons (by simp; omega)]
  simp
theorem asc_set (s : Tx) (c : UInt8) : (ascH s :: ascT s).take c.toNat ++ ([AV.d (.bool true)] ++ (ascH s :: ascT s).drop (c.toNat + 1)) = ascH (s ++ [c]) :: ascT (s ++ [c]) := by
  have hc := c.toNat_lt
  rw [asc_row, asc_row]
  apply List.ext_getElem
  · simp; omega
  · intro i h1 h2
    have hi : i < 256 := by simpa using h2
    rw [List.getElem_map, List.getElem_range]
    rcases Nat.lt_trichotomy i c.toNat with h | h | h
    · rw [List.getElem_append_left (by simp; omega)]
      simp [memB]
      omega
    · subst h
      rw [List.getElem_append_right (by simp; omega)]
      have e0 : c.toNat - min c.toNat 256 = 0 := by omega
      simp [memB, e0]
    · rw [List.getElem_append_right (by simp; omega)]
      rw [List.getElem_append_right (by simp; omega)]
      simp [memB]
      rw [show c.toNat + 1 + (i - min c.toNat 256 - 1) = i by omega]
      simp [memB]
      omega
theorem asc_set2 (s : Tx) (c : UInt8) : (ascH s :: ascT s).take c.toNat ++ (AV.d (.bool true) :: (ascT s).drop c.toNat) = ascH (s ++ [c]) :: ascT (s ++ [c]) := asc_set s c
theorem tk_get {a : Tx} {k : Nat} (h : k < a.length) : a.take (k + 1) = a.take k ++ [a.getD k 0] := by
  rw [List.take_add_one]; simp [List.getD, List.getElem?_eq_getElem h]
theorem asc_leH (s : Tx) : LeA false (ascH s) (ascH s) := by simp [ascH, LeA, LeD]
theorem asc_leT (s : Tx) : LeL false (ascT s) (ascT s) := LeL.self (by simp [ascT])
theorem asc_drop (s : Tx) : (ascH s :: ascT s).drop 256 = [] := by rw [List.drop_eq_nil_of_le (by simp [ascT_len])]
theorem asc_all (s : Tx) : (ascH s :: ascT s).take 256 = ascH s :: ascT s := by rw [List.take_of_length_le (by simp [ascT_len])]
theorem asc_zero : zI Tryd.prog 151 = some (ascH [] :: ascT []) := by kernel_rfl
theorem memBl (c : UInt8) : memB [32, 9] c.toNat = isBl c := by
  unfold memB isBl
  rw [Bool.eq_iff_iff]
  simp
  omega
set_option maxRecDepth 4000 in
set_option maxHeartbeats 1000000 in
theorem ascHas_c (T : Tbl) (s : Tx) (c : UInt8) (b : Nat) (F : List (Nat × Ob)) (L : List Nat) : AC Tryd.prog T 133 [.ptr b 256 0 0, .d (.int .u8 (c.toNat : Int))] (⟨(b, ⟨256, 1, [ascH s :: ascT s]⟩) :: F, L⟩) (fun r h => r = .ret (.d (.bool (memB s c.toNat))) ∧ h = ⟨(b, ⟨256, 1, [ascH s :: ascT s]⟩) :: F, L⟩) := by
  refine ⟨Tryd.call133, ACalls.enterS Tryd.func133 rfl Tryd.ntmps133 rfl fun hb => ?_⟩
  have hc := c.toNat_lt
  simp only [go_sem, Tryd.results133]
  refine AWp.rs fun K1 hK1 => ?_
  try simp only [go_sem, icast, u8le, asc_get, natT, Nat.mul_one, Nat.zero_add]
  refine hK1 _ _ ?_
  try clear hK1 K1
  refine AWp.rs fun K2 hK2 => ?_
  try simp only [go_sem, icast, u8le, asc_get, natT, Nat.mul_one, Nat.zero_add]
  (repeat (with_reducible refine And.intro ?_ ?_; omega))
  refine hK2 _ _ ?_
  try clear hK2 K2
  refine AWp.mask [false, false, true] rfl ?_
  simp only [go_sem]
  refine AWp.ret ?_
  apply endW_r [] [] [] [] (by (try simp only [go_sem, icast, u8le, asc_get, natT, Nat.mul_one, Nat.zero_add]); rfl)
  · exact ⟨rfl, rfl⟩
  · simp [LeA, LeD]
set_option maxRecDepth 4000 in
set_option maxHeartbeats 1000000 in
theorem ascMake_c (T : Tbl) (s : Tx) (hs : s.length ≤ 1000) (ha : ∀ c ∈ s, c.toNat < 128) : PC Tryd.prog T 109 [.d (.str s)] (.tup [.agg (ascH s :: ascT s), .d (.bool true)]) := by
  refine ⟨Tryd.call109, PCall.enterS Tryd.func109 rfl Tryd.ntmps109 rfl fun hb => ?_⟩
  simp only [go_sem, Tryd.results109]
  refine AWp.rs fun K1 hK1 => ?_
  try simp only [go_sem, icast, asc_zero, u8le, asc_set2, asc_all, asc_drop, natT, Nat.mul_one, Nat.zero_add]
  intro b2
  first | intro fb2 | have fb2 := True.intro
  try simp only [freshL] at fb2
  refine hK1 _ _ ?_
  try clear hK1 K1
  refine AWp.seq fun K2 hK2 => ?_
  refine AWp.rs fun K3 hK3 => ?_
  try simp only [go_sem, icast, asc_zero, u8le, asc_set2, asc_all, asc_drop, natT, Nat.mul_one, Nat.zero_add, fb2]
  refine hK3 _ _ ?_
  try clear hK3 K3
  refine AWp.block ?_
  refine AWp.mask [true, true, false, true] rfl ?_
  simp only [go_sem]
  refine AWp.loopS [true, true] [false, false, true] (fun n lc hc => ∃ (i : Nat), n = s.length - i ∧ EqS lc [(4, .d (.int .i64 i))] ∧ EqS hc (⟨[(b2, ⟨256, 1, [ascH (s.take i) :: ascT (s.take i)]⟩)], []⟩) ∧ (i ≤ s.length)) rfl ?_ ?_
  · refine ⟨_, 0, rfl, ?_, ?_, ?_⟩
    · (try simp only [go_sem, icast, asc_zero, u8le, asc_set2, asc_all, asc_drop, natT, Nat.mul_one, Nat.zero_add, fb2]) <;> first | exact ⟨rfl⟩ | (constructor; simp; done)
    · (try simp only [go_sem, icast, asc_zero, u8le, asc_set2, asc_all, asc_drop, natT, Nat.mul_one, Nat.zero_add, fb2]) <;> first | exact ⟨rfl⟩ | (constructor; simp; done)
    all_goals (first | omega | rfl | (simp; done) | (simp; omega) | assumption)
  · rintro _ _ _ ⟨i, rfl, ⟨rfl⟩, ⟨rfl⟩, h1⟩
    simp only [go_sem]
    refine AWp.seq fun K4 hK4 => ?_
    refine AWp.rs fun K5 hK5 => ?_
    try simp only [go_sem, icast, asc_zero, u8le, asc_set2, asc_all, asc_drop, natT, Nat.mul_one, Nat.zero_add, fb2]
    refine hK5 _ _ ?_
    try clear hK5 K5
    refine AWp.cond _ rfl (fun hc0 => ?_) (fun hc0 => ?_)
    · skip
      try simp only [decide_eq_true_eq, decide_eq_false_iff_not, Bool.not_eq_true', Bool.not_eq_false', Bool.and_eq_true, Bool.or_eq_true, Bool.and_eq_false_iff, Bool.or_eq_false_iff, Int.not_lt, Int.not_le, beq_iff_eq, beq_eq_false_iff_ne, ne_eq, Bool.not_eq_true, Bool.not_eq_false] at hc0
      have hlt : i < s.length := by omega
      have hc := ha _ (List.getElem_mem hlt)
      have hc2 : (s.getD i 0).toNat < 128 := by simpa [List.getD, hlt] using hc
      refine AWp.skip ?_
      refine thenQ_n ?_
      refine hK4 _ _ ?_
      try clear hK4 K4
      refine AWp.mask [true, true, true] rfl ?_
      simp only [go_sem]
      refine AWp.seq fun K6 hK6 => ?_
      refine AWp.block ?_
      refine AWp.rs fun K7 hK7 => ?_
      try simp only [go_sem, icast, asc_zero, u8le, asc_set2, asc_all, asc_drop, natT, Nat.mul_one, Nat.zero_add, fb2]
      (repeat (with_reducible refine And.intro ?_ ?_; omega))
      refine hK7 _ _ ?_
      try clear hK7 K7
      refine AWp.seq fun K8 hK8 => ?_
      refine AWp.rs fun K9 hK9 => ?_
      try simp only [go_sem, icast, asc_zero, u8le, asc_set2, asc_all, asc_drop, natT, Nat.mul_one, Nat.zero_add, fb2]
      refine hK9 _ _ ?_
      try clear hK9 K9
      refine AWp.mask [true, true, true, true, false, false, false, false, true] rfl ?_
      simp only [go_sem]
      refine AWp.cond _ rfl (fun hc1 => ?_) (fun hc1 => ?_)
      · skip
        exfalso
        simp only [decide_eq_true_eq] at hc1
        omega
      · skip
        try simp only [decide_eq_true_eq, decide_eq_false_iff_not, Bool.not_eq_true', Bool.not_eq_false', Bool.and_eq_true, Bool.or_eq_true, Bool.and_eq_false_iff, Bool.or_eq_false_iff, Int.not_lt, Int.not_le, beq_iff_eq, beq_eq_false_iff_ne, ne_eq, Bool.not_eq_true, Bool.not_eq_false] at hc1
        refine AWp.skip ?_
        refine thenQ_n ?_
        refine hK8 _ _ ?_
        try clear hK8 K8
        refine AWp.rk fun K10 hK10 => ?_
        try simp only [go_sem, icast, asc_zero, u8le, asc_set2, asc_all, asc_drop, natT, Nat.mul_one, Nat.zero_add, fb2]
        (repeat (with_reducible refine And.intro ?_ ?_; omega))
        refine hK10 _ _ ?_
        try clear hK10 K10
        refine blkQ_n (thenQ_n ?_)
        refine hK6 _ _ ?_
        try clear hK6 K6
        refine AWp.mask [true, true, true] rfl ?_
        simp only [go_sem]
        refine AWp.rk fun K11 hK11 => ?_
        try simp only [go_sem, icast, asc_zero, u8le, asc_set2, asc_all, asc_drop, natT, Nat.mul_one, Nat.zero_add, fb2]
        (repeat (with_reducible refine And.intro ?_ ?_; omega))
        refine hK11 _ _ ?_
        try clear hK11 K11
        refine thenQ_n ?_
        refine EndS.mk [true, true] [false, false, true] [] [] [b2] [] rfl ?_ ?_
        · (try simp only [go_sem, icast, asc_zero, u8le, asc_set2, asc_all, asc_drop, natT, Nat.mul_one, Nat.zero_add, fb2]) <;> try rfl
        refine .e ⟨_, ?_, i + 1, rfl, ?_, ?_, ?_⟩
        · first | omega | (simp; omega) | (grind)
        · (try simp only [go_sem, icast, asc_zero, u8le, asc_set2, asc_all, asc_drop, natT, Nat.mul_one, Nat.zero_add, fb2]) <;> first | exact ⟨rfl⟩ | (constructor; simp; done)
        · (try simp only [go_sem, icast, asc_zero, u8le, asc_set2, asc_all, asc_drop, natT, Nat.mul_one, Nat.zero_add, fb2]) <;> first | exact ⟨rfl⟩ | (constructor; rw [tk_get hlt])
        all_goals (first | omega | assumption | grind)
    · skip
      try simp only [decide_eq_true_eq, decide_eq_false_iff_not, Bool.not_eq_true', Bool.not_eq_false', Bool.and_eq_true, Bool.or_eq_true, Bool.and_eq_false_iff, Bool.or_eq_false_iff, Int.not_lt, Int.not_le, beq_iff_eq, beq_eq_false_iff_ne, ne_eq, Bool.not_eq_true, Bool.not_eq_false] at hc0
      have hk : i = s.length := by omega
      subst hk
      rw [List.take_length]
      refine AWp.exit ?_
      refine thenQ_e (thenQ_e (blkQ_e (thenQ_n ?_)))
      refine hK2 _ _ ?_
      try clear hK2 K2
      refine AWp.mask [false, true] rfl ?_
      simp only [go_sem]
      refine AWp.rs fun K12 hK12 => ?_
      try simp only [go_sem, icast, asc_zero, u8le, asc_set2, asc_all, asc_drop, natT, Nat.mul_one, Nat.zero_add, fb2]
      refine hK12 _ _ ?_
      try clear hK12 K12
      refine AWp.ret ?_
      try simp only [go_sem, icast, asc_zero, u8le, asc_set2, asc_all, asc_drop, natT, Nat.mul_one, Nat.zero_add, fb2]
      try simp [LeA, LeL, LeD, asc_leH, asc_leT]
set_option maxRecDepth 4000 in
set_option maxHeartbeats 1000000 in
theorem trimLA_c (T : Tbl) (s : Tx) (b : Nat) (F : List (Nat × Ob)) (L : List Nat) (hs : s.length ≤ 2000000) : AC Tryd.prog T 110 [.d (.str s), .ptr b 256 0 0] (⟨(b, ⟨256, 1, [ascH [32, 9] :: ascT [32, 9]]⟩) :: F, L⟩) (fun r h => r = .ret (.d (.str (trimL s))) ∧ h = ⟨(b, ⟨256, 1, [ascH [32, 9] :: ascT [32, 9]]⟩) :: F, L⟩) := by
  refine ⟨Tryd.call110, ACalls.enterS Tryd.func110 rfl Tryd.ntmps110 rfl fun hb => ?_⟩
  simp only [go_sem, Tryd.results110]
  refine AWp.rs fun K1 hK1 => ?_
  try simp only [go_sem, icast, memBl, natT, List.take_length]
  refine hK1 _ _ ?_
  try clear hK1 K1
  refine AWp.seq fun K2 hK2 => ?_
  refine AWp.block ?_
  refine AWp.mask [true, true] rfl ?_
  simp only [go_sem]
  refine AWp.loopS [false, true] [true] (fun n lc hc => ∃ (q : Tx), n = q.length ∧ EqS lc [(0, .d (.str q))] ∧ EqS hc (⟨(b, ⟨256, 1, [ascH [32, 9] :: ascT [32, 9]]⟩) :: F, L⟩) ∧ (trimL q = trimL s) ∧ (q.length ≤ s.length)) rfl ?_ ?_
  · refine ⟨_, s, rfl, ?_, ?_, ?_, ?_⟩
    · (try simp only [go_sem, icast, memBl, natT, List.take_length]) <;> first | exact ⟨rfl⟩ | (constructor; simp; done)
    · (try simp only [go_sem, icast, memBl, natT, List.take_length]) <;> first | exact ⟨rfl⟩ | (constructor; simp; done)
    all_goals (first | rfl | omega)
  · rintro _ _ _ ⟨q, rfl, ⟨rfl⟩, ⟨rfl⟩, h1, h2⟩
    simp only [go_sem]
    refine AWp.seq fun K3 hK3 => ?_
    refine AWp.rs fun K4 hK4 => ?_
    try simp only [go_sem, icast, memBl, natT, List.take_length]
    refine hK4 _ _ ?_
    try clear hK4 K4
    refine AWp.cond _ rfl (fun hc0 => ?_) (fun hc0 => ?_)
    · skip
      try simp only [decide_eq_true_eq, decide_eq_false_iff_not, Bool.not_eq_true', Bool.not_eq_false', Bool.and_eq_true, Bool.or_eq_true, Bool.and_eq_false_iff, Bool.or_eq_false_iff, Int.not_lt, Int.not_le, beq_iff_eq, beq_eq_false_iff_ne, ne_eq, Bool.not_eq_true, Bool.not_eq_false] at hc0
      have hp : 0 < q.length := by omega
      refine AWp.skip ?_
      refine thenQ_n ?_
      refine hK3 _ _ ?_
      try clear hK3 K3
      refine AWp.block ?_
      refine AWp.seq fun K5 hK5 => ?_
      refine AWp.rs fun K6 hK6 => ?_
      try simp only [go_sem, icast, memBl, natT, List.take_length, nlen1 hp]
      (repeat (with_reducible refine And.intro ?_ ?_; omega))
      refine DW.acp [b] [] rfl rfl rfl rfl (by (try simp only [go_sem, icast, memBl, natT, List.take_length, nlen1 hp]); rfl) rfl (ascHas_c T [32, 9] _ b _ _) ?_
      rintro _ _ ⟨rfl, rfl⟩
      try simp only [go_sem, icast, memBl, natT, List.take_length, nlen1 hp]
      refine hK6 _ _ ?_
      try clear hK6 K6
      refine AWp.mask [true, true, false, false, false, false, false, false, false, true] rfl ?_
      simp only [go_sem]
      refine AWp.cond _ rfl (fun hc1 => ?_) (fun hc1 => ?_)
      · skip
        try simp only [decide_eq_true_eq, decide_eq_false_iff_not, Bool.not_eq_true', Bool.not_eq_false', Bool.and_eq_true, Bool.or_eq_true, Bool.and_eq_false_iff, Bool.or_eq_false_iff, Int.not_lt, Int.not_le, beq_iff_eq, beq_eq_false_iff_ne, ne_eq, Bool.not_eq_true, Bool.not_eq_false] at hc1
        have hq : trimL s = q := by rw [← h1]; exact trimL_stop (fun _ => by simpa using hc1)
        refine AWp.exit ?_
        refine thenQ_e (blkQ_d (by decide) (thenQ_e (blkQ_e (thenQ_n ?_))))
        refine hK2 _ _ ?_
        try clear hK2 K2
        refine AWp.rs fun K7 hK7 => ?_
        try simp only [go_sem, icast, memBl, natT, List.take_length, nlen1 hp]
        refine hK7 _ _ ?_
        try clear hK7 K7
        refine AWp.mask [false, false, true] rfl ?_
        simp only [go_sem]
        refine AWp.ret ?_
        apply endW_r [] [] [] [] (by (try simp only [go_sem, icast, memBl, natT, List.take_length, nlen1 hp]); rfl)
        · exact ⟨rfl, rfl⟩
        · rw [hq]; simp [LeA, LeD]
      · skip
        try simp only [decide_eq_true_eq, decide_eq_false_iff_not, Bool.not_eq_true', Bool.not_eq_false', Bool.and_eq_true, Bool.or_eq_true, Bool.and_eq_false_iff, Bool.or_eq_false_iff, Int.not_lt, Int.not_le, beq_iff_eq, beq_eq_false_iff_ne, ne_eq, Bool.not_eq_true, Bool.not_eq_false] at hc1
        refine AWp.skip ?_
        refine thenQ_n ?_
        refine hK5 _ _ ?_
        try clear hK5 K5
        refine AWp.rk fun K8 hK8 => ?_
        try simp only [go_sem, icast, memBl, natT, List.take_length, nlen1 hp]
        (repeat (with_reducible refine And.intro ?_ ?_; omega))
        refine hK8 _ _ ?_
        try clear hK8 K8
        refine blkQ_n (thenQ_n ?_)
        refine EndS.mk [false, true] [true] [] [] [b] [] rfl ?_ ?_
        · (try simp only [go_sem, icast, memBl, natT, List.take_length, nlen1 hp]) <;> try rfl
        refine .e ⟨_, ?_, (q.drop 1), rfl, ?_, ?_, ?_, ?_⟩
        · first | omega | (simp; omega) | (simp; omega)
        · (try simp only [go_sem, icast, memBl, natT, List.take_length, nlen1 hp]) <;> first | exact ⟨rfl⟩ | (constructor; simp; done)
        · (try simp only [go_sem, icast, memBl, natT, List.take_length, nlen1 hp]) <;> first | exact ⟨rfl⟩ | (constructor; simp; done)
        · rw [trimL_drop hp hc1]; exact h1
        · simp; omega
    · skip
      try simp only [decide_eq_true_eq, decide_eq_false_iff_not, Bool.not_eq_true', Bool.not_eq_false', Bool.and_eq_true, Bool.or_eq_true, Bool.and_eq_false_iff, Bool.or_eq_false_iff, Int.not_lt, Int.not_le, beq_iff_eq, beq_eq_false_iff_ne, ne_eq, Bool.not_eq_true, Bool.not_eq_false] at hc0
      have hq : trimL s = q := by rw [← h1]; exact trimL_stop (fun hp => by omega)
      refine AWp.exit ?_
      refine thenQ_e (thenQ_e (blkQ_e (thenQ_n ?_)))
      refine hK2 _ _ ?_
      try clear hK2 K2
      refine AWp.mask [true] rfl ?_
      simp only [go_sem]
      refine AWp.rs fun K9 hK9 => ?_
      try simp only [go_sem, icast, memBl, natT, List.take_length]
      refine hK9 _ _ ?_
      try clear hK9 K9
      refine AWp.ret ?_
      apply endW_r [] [] [] [] (by (try simp only [go_sem, icast, memBl, natT, List.take_length]); rfl)
      · exact ⟨rfl, rfl⟩
      · rw [hq]; simp [LeA, LeD]
set_option maxRecDepth 4000 in
set_option maxHeartbeats 1000000 in
theorem trimRA_c (T : Tbl) (s : Tx) (b : Nat) (F : List (Nat × Ob)) (L : List Nat) (hs : s.length ≤ 2000000) : AC Tryd.prog T 111 [.d (.str s), .ptr b 256 0 0] (⟨(b, ⟨256, 1, [ascH [32, 9] :: ascT [32, 9]]⟩) :: F, L⟩) (fun r h => r = .ret (.d (.str (trimR s))) ∧ h = ⟨(b, ⟨256, 1, [ascH [32, 9] :: ascT [32, 9]]⟩) :: F, L⟩) := by
  refine ⟨Tryd.call111, ACalls.enterS Tryd.func111 rfl Tryd.ntmps111 rfl fun hb => ?_⟩
  simp only [go_sem, Tryd.results111]
  refine AWp.rs fun K1 hK1 => ?_
  try simp only [go_sem, icast, memBl, natT, List.take_length]
  refine hK1 _ _ ?_
  try clear hK1 K1
  refine AWp.seq fun K2 hK2 => ?_
  refine AWp.block ?_
  refine AWp.mask [true, true] rfl ?_
  simp only [go_sem]
  refine AWp.loopS [false, true] [true] (fun n lc hc => ∃ (q : Tx), n = q.length ∧ EqS lc [(0, .d (.str q))] ∧ EqS hc (⟨(b, ⟨256, 1, [ascH [32, 9] :: ascT [32, 9]]⟩) :: F, L⟩) ∧ (trimR q = trimR s) ∧ (q.length ≤ s.length)) rfl ?_ ?_
  · refine ⟨_, s, rfl, ?_, ?_, ?_, ?_⟩
    · (try simp only [go_sem, icast, memBl, natT, List.take_length]) <;> first | exact ⟨rfl⟩ | (constructor; simp; done)
    · (try simp only [go_sem, icast, memBl, natT, List.take_length]) <;> first | exact ⟨rfl⟩ | (constructor; simp; done)
    all_goals (first | rfl | omega)
  · rintro _ _ _ ⟨q, rfl, ⟨rfl⟩, ⟨rfl⟩, h1, h2⟩
    simp only [go_sem]
    refine AWp.seq fun K3 hK3 => ?_
    refine AWp.rs fun K4 hK4 => ?_
    try simp only [go_sem, icast, memBl, natT, List.take_length]
    refine hK4 _ _ ?_
    try clear hK4 K4
    refine AWp.cond _ rfl (fun hc0 => ?_) (fun hc0 => ?_)
    · skip
      try simp only [decide_eq_true_eq, decide_eq_false_iff_not, Bool.not_eq_true', Bool.not_eq_false', Bool.and_eq_true, Bool.or_eq_true, Bool.and_eq_false_iff, Bool.or_eq_false_iff, Int.not_lt, Int.not_le, beq_iff_eq, beq_eq_false_iff_ne, ne_eq, Bool.not_eq_true, Bool.not_eq_false] at hc0
      have hp : 0 < q.length := by omega
      refine AWp.skip ?_
      refine thenQ_n ?_
      refine hK3 _ _ ?_
      try clear hK3 K3
      refine AWp.block ?_
      refine AWp.seq fun K5 hK5 => ?_
      refine AWp.rs fun K6 hK6 => ?_
      try simp only [go_sem, icast, memBl, natT, List.take_length, nlen1 hp]
      (repeat (with_reducible refine And.intro ?_ ?_; omega))
      refine DW.acp [b] [] rfl rfl rfl rfl (by (try simp only [go_sem, icast, memBl, natT, List.take_length, nlen1 hp]); rfl) rfl (ascHas_c T [32, 9] _ b _ _) ?_
      rintro _ _ ⟨rfl, rfl⟩
      try simp only [go_sem, icast, memBl, natT, List.take_length, nlen1 hp]
      refine hK6 _ _ ?_
      try clear hK6 K6
      refine AWp.mask [true, true, false, false, false, false, false, false, false, false, false, false, true] rfl ?_
      simp only [go_sem]
      refine AWp.cond _ rfl (fun hc1 => ?_) (fun hc1 => ?_)
      · skip
        try simp only [decide_eq_true_eq, decide_eq_false_iff_not, Bool.not_eq_true', Bool.not_eq_false', Bool.and_eq_true, Bool.or_eq_true, Bool.and_eq_false_iff, Bool.or_eq_false_iff, Int.not_lt, Int.not_le, beq_iff_eq, beq_eq_false_iff_ne, ne_eq, Bool.not_eq_true, Bool.not_eq_false] at hc1
        have hq : trimR s = q := by rw [← h1]; exact trimR_stop (fun _ => by simpa using hc1)
        refine AWp.exit ?_
        refine thenQ_e (blkQ_d (by decide) (thenQ_e (blkQ_e (thenQ_n ?_))))
        refine hK2 _ _ ?_
        try clear hK2 K2
        refine AWp.rs fun K7 hK7 => ?_
        try simp only [go_sem, icast, memBl, natT, List.take_length, nlen1 hp]
        refine hK7 _ _ ?_
        try clear hK7 K7
        refine AWp.mask [false, false, true] rfl ?_
        simp only [go_sem]
        refine AWp.ret ?_
        apply endW_r [] [] [] [] (by (try simp only [go_sem, icast, memBl, natT, List.take_length, nlen1 hp]); rfl)
        · exact ⟨rfl, rfl⟩
        · rw [hq]; simp [LeA, LeD]
      · skip
        try simp only [decide_eq_true_eq, decide_eq_false_iff_not, Bool.not_eq_true', Bool.not_eq_false', Bool.and_eq_true, Bool.or_eq_true, Bool.and_eq_false_iff, Bool.or_eq_false_iff, Int.not_lt, Int.not_le, beq_iff_eq, beq_eq_false_iff_ne, ne_eq, Bool.not_eq_true, Bool.not_eq_false] at hc1
        refine AWp.skip ?_
        refine thenQ_n ?_
        refine hK5 _ _ ?_
        try clear hK5 K5
        refine AWp.rk fun K8 hK8 => ?_
        try simp only [go_sem, icast, memBl, natT, List.take_length, nlen1 hp]
        (repeat (with_reducible refine And.intro ?_ ?_; omega))
        refine hK8 _ _ ?_
        try clear hK8 K8
        refine blkQ_n (thenQ_n ?_)
        refine EndS.mk [false, true] [true] [] [] [b] [] rfl ?_ ?_
        · (try simp only [go_sem, icast, memBl, natT, List.take_length, nlen1 hp]) <;> try rfl
        refine .e ⟨_, ?_, (q.take (q.length - 1)), rfl, ?_, ?_, ?_, ?_⟩
        · first | omega | (simp; omega) | (simp; omega)
        · (try simp only [go_sem, icast, memBl, natT, List.take_length, nlen1 hp]) <;> first | exact ⟨rfl⟩ | (constructor; simp; done)
        · (try simp only [go_sem, icast, memBl, natT, List.take_length, nlen1 hp]) <;> first | exact ⟨rfl⟩ | (constructor; simp; done)
        · rw [trimR_take hp hc1]; exact h1
        · simp; omega
    · skip
      try simp only [decide_eq_true_eq, decide_eq_false_iff_not, Bool.not_eq_true', Bool.not_eq_false', Bool.and_eq_true, Bool.or_eq_true, Bool.and_eq_false_iff, Bool.or_eq_false_iff, Int.not_lt, Int.not_le, beq_iff_eq, beq_eq_false_iff_ne, ne_eq, Bool.not_eq_true, Bool.not_eq_false] at hc0
      have hq : trimR s = q := by rw [← h1]; exact trimR_stop (fun hp => by omega)
      refine AWp.exit ?_
      refine thenQ_e (thenQ_e (blkQ_e (thenQ_n ?_)))
      refine hK2 _ _ ?_
      try clear hK2 K2
      refine AWp.mask [true] rfl ?_
      simp only [go_sem]
      refine AWp.rs fun K9 hK9 => ?_
      try simp only [go_sem, icast, memBl, natT, List.take_length]
      refine hK9 _ _ ?_
      try clear hK9 K9
      refine AWp.ret ?_
      apply endW_r [] [] [] [] (by (try simp only [go_sem, icast, memBl, natT, List.take_length]); rfl)
      · exact ⟨rfl, rfl⟩
      · rw [hq]; simp [LeA, LeD]
set_option maxRecDepth 4000 in
set_option maxHeartbeats 1000000 in
theorem Trim_c (T : Tbl) (s : Tx) (hs : s.length ≤ 2000000) : PC Tryd.prog T 75 [.d (.str s), .d (.str ([32, 9]))] (.d (.str (trimS s))) := by
  refine ⟨Tryd.call75, PCall.enterS Tryd.func75 rfl Tryd.ntmps75 rfl fun hb => ?_⟩
  simp only [go_sem, Tryd.results75]
  refine AWp.rs fun K1 hK1 => ?_
  try simp only [go_sem, icast, asc_zero, asc_drop, Nat.zero_add]
  refine hK1 _ _ ?_
  try clear hK1 K1
  refine AWp.seq fun K2 hK2 => ?_
  refine AWp.rs fun K3 hK3 => ?_
  try simp only [go_sem, icast, asc_zero, asc_drop, Nat.zero_add]
  (repeat (with_reducible refine And.intro ?_ ?_; (exact nfB)))
  refine hK3 _ _ ?_
  try clear hK3 K3
  refine AWp.mask [true, true, false, false, false, false, false, false, true] rfl ?_
  simp only [go_sem]
  refine AWp.cond _ rfl (fun hc0 => ?_) (fun hc0 => ?_)
  · skip
    try simp only [decide_eq_true_eq, decide_eq_false_iff_not, Bool.not_eq_true', Bool.not_eq_false', Bool.and_eq_true, Bool.or_eq_true, Bool.and_eq_false_iff, Bool.or_eq_false_iff, Int.not_lt, Int.not_le, beq_iff_eq, beq_eq_false_iff_ne, ne_eq, Bool.not_eq_true, Bool.not_eq_false] at hc0
    refine AWp.rs fun K4 hK4 => ?_
    try simp only [go_sem, icast, asc_zero, asc_drop, Nat.zero_add]
    refine hK4 _ _ ?_
    try clear hK4 K4
    refine AWp.mask [false, false, true] rfl ?_
    simp only [go_sem]
    refine AWp.ret ?_
    try simp only [go_sem, icast, asc_zero, asc_drop, Nat.zero_add]
    have h0 : s = [] := by simpa using hc0
    subst h0
    simp [LeA, LeD, trimS, trimR, trimL]
  · skip
    try simp only [decide_eq_true_eq, decide_eq_false_iff_not, Bool.not_eq_true', Bool.not_eq_false', Bool.and_eq_true, Bool.or_eq_true, Bool.and_eq_false_iff, Bool.or_eq_false_iff, Int.not_lt, Int.not_le, beq_iff_eq, beq_eq_false_iff_ne, ne_eq, Bool.not_eq_true, Bool.not_eq_false] at hc0
    refine AWp.skip ?_
    refine thenQ_n ?_
    refine hK2 _ _ ?_
    try clear hK2 K2
    refine AWp.seq fun K5 hK5 => ?_
    refine AWp.rs fun K6 hK6 => ?_
    try simp only [go_sem, icast, asc_zero, asc_drop, Nat.zero_add]
    (repeat (with_reducible refine And.intro ?_ ?_; decide))
    refine hK6 _ _ ?_
    try clear hK6 K6
    refine AWp.mask [true, true, false, false, false, false, false, false, false, false, true] rfl ?_
    simp only [go_sem]
    refine AWp.cond _ rfl (fun hc1 => ?_) (fun hc1 => ?_)
    · skip
      exfalso
      simp at hc1
    · skip
      try simp only [decide_eq_true_eq, decide_eq_false_iff_not, Bool.not_eq_true', Bool.not_eq_false', Bool.and_eq_true, Bool.or_eq_true, Bool.and_eq_false_iff, Bool.or_eq_false_iff, Int.not_lt, Int.not_le, beq_iff_eq, beq_eq_false_iff_ne, ne_eq, Bool.not_eq_true, Bool.not_eq_false] at hc1
      refine AWp.skip ?_
      refine thenQ_n ?_
      refine hK5 _ _ ?_
      try clear hK5 K5
      refine AWp.seq fun K7 hK7 => ?_
      refine AWp.rs fun K8 hK8 => ?_
      try simp only [go_sem, icast, asc_zero, asc_drop, Nat.zero_add]
      refine DW.pcr rfl rfl rfl rfl (ascMake_c T [32, 9] (by decide) (by decide)) rfl rfl ?_
      try simp only [go_sem, icast, asc_zero, asc_drop, Nat.zero_add]
      intro b5
      first | intro fb5 | have fb5 := True.intro
      try simp only [freshL] at fb5
      refine hK8 _ _ ?_
      try clear hK8 K8
      refine AWp.mask [true, true, true, true] rfl ?_
      simp only [go_sem]
      refine AWp.rs fun K9 hK9 => ?_
      try simp only [go_sem, icast, asc_zero, asc_drop, Nat.zero_add, fb5]
      refine hK9 _ _ ?_
      try clear hK9 K9
      refine AWp.cond _ rfl (fun hc2 => ?_) (fun hc2 => ?_)
      · skip
        try simp only [decide_eq_true_eq, decide_eq_false_iff_not, Bool.not_eq_true', Bool.not_eq_false', Bool.and_eq_true, Bool.or_eq_true, Bool.and_eq_false_iff, Bool.or_eq_false_iff, Int.not_lt, Int.not_le, beq_iff_eq, beq_eq_false_iff_ne, ne_eq, Bool.not_eq_true, Bool.not_eq_false] at hc2
        refine AWp.rs fun K10 hK10 => ?_
        try simp only [go_sem, icast, asc_zero, asc_drop, Nat.zero_add, fb5]
        refine DW.acp [b5] [] rfl rfl rfl rfl (by (try simp only [go_sem, icast, asc_zero, asc_drop, Nat.zero_add, fb5]); rfl) rfl (trimRA_c T s b5 _ _ hs) ?_
        rintro _ _ ⟨rfl, rfl⟩
        try simp only [go_sem, icast, asc_zero, asc_drop, Nat.zero_add, fb5]
        refine DW.acp [b5] [] rfl rfl rfl rfl (by (try simp only [go_sem, icast, asc_zero, asc_drop, Nat.zero_add, fb5]); rfl) rfl (trimLA_c T (trimR s) b5 _ _ (Nat.le_trans (trimR_len s) hs)) ?_
        rintro _ _ ⟨rfl, rfl⟩
        try simp only [go_sem, icast, asc_zero, asc_drop, Nat.zero_add, fb5]
        refine hK10 _ _ ?_
        try clear hK10 K10
        refine AWp.mask [false, false, true] rfl ?_
        simp only [go_sem]
        refine AWp.ret ?_
        try simp only [go_sem, icast, asc_zero, asc_drop, Nat.zero_add, fb5]
        simp [LeA, LeD, trimS]
      · skip
        exact absurd hc2 (by simp)
end Go.Proofs.YthhfbolhlbgbgaaDoor

namespace Go.Proofs.YthhfbolhlbgbgaaDoor
set_option linter.unusedSimpArgs false
set_option linter.unusedVariables false
/-- fields of a message, as data -/
def fldD (f : Tx × Tx) : List D := [.str f.1, .str f.2]
def fldsD (l : List (Tx × Tx)) : List (List D) := l.map fldD
@[go_sem] theorem fldsD_len (l : List (Tx × Tx)) : (fldsD l).length = l.length := by simp [fldsD]
theorem fldsD_get (l : List (Tx × Tx)) (i : Nat) (d : List D) (h : i < l.length) : (fldsD l).getD i d = fldD (l[i]'h) := map_getD fldD _ _ _ h
theorem frow_get {l : List (Tx × Tx)} {i : Nat} (h : i < l.length) : (dRows (fldsD l))[i]? = some [.d (.str (l.getD i ([], [])).1), .d (.str (l.getD i ([], [])).2)] := by
  simp [dRows, fldsD, List.getD, h, fldD]
theorem frow_set (l : List (Tx × Tx)) (i : Nat) (x y : Tx) : (dRows (fldsD l)).set i [.d (.str x), .d (.str y)] = dRows (fldsD (l.set i (x, y))) := by
  simp [dRows, fldsD, List.map_set, fldD]
theorem frow_app (l : List (Tx × Tx)) (x y : Tx) : dRows (fldsD l) ++ dRows [[.str x, .str y]] = dRows (fldsD (l ++ [(x, y)])) := by simp [dRows, fldsD, fldD]
theorem frow_full (l : List (Tx × Tx)) : ∀ r ∈ dRows (fldsD l), r.length = 2 := fun r hr => by
  simp only [dRows, fldsD, List.mem_map] at hr
  obtain ⟨_, ⟨f, _, rfl⟩, rfl⟩ := hr
  rfl
theorem fld_full (l : List (Tx × Tx)) : ∀ r ∈ fldsD l, r.length = 2 := fun r hr => by
  simp only [fldsD, List.mem_map] at hr
  obtain ⟨f, _, rfl⟩ := hr
  rfl
def glue (acc : List (Tx × Tx)) (t : Tx) : List (Tx × Tx) := acc.set (acc.length - 1) ((acc.getD (acc.length - 1) ([], [])).1, (acc.getD (acc.length - 1) ([], [])).2 ++ t)
@[go_sem] theorem glue_len (acc : List (Tx × Tx)) (t : Tx) : (glue acc t).length = acc.length := by simp [glue]
/-- a message read from a text: fields, body, the line that is wrong, the error -/
def msgF : Nat → List (Tx × Tx) → Nat → Tx → List (Tx × Tx) × Tx × Nat × Int
  | 0, _, ln, _ => ([], [], ln, 4)
  | n + 1, acc, ln, s =>
    if Lib.index s [13, 10] < 0 then ([], [], ln, 4)
    else if s.take (Lib.index s [13, 10]).toNat = [] then (acc, s.drop ((Lib.index s [13, 10]).toNat + 2), 0, 0)
    else if isBl ((s.take (Lib.index s [13, 10]).toNat).getD 0 0) = true ∧ 0 < acc.length then msgF n (glue acc (s.take (Lib.index s [13, 10]).toNat)) (ln + 1) (s.drop ((Lib.index s [13, 10]).toNat + 2))
    else if Lib.index (s.take (Lib.index s [13, 10]).toNat) [58] < 0 then ([], [], ln, 3)
    else if nmL ((s.take (Lib.index s [13, 10]).toNat).take (Lib.index (s.take (Lib.index s [13, 10]).toNat) [58]).toNat) = false then ([], [], ln, 3)
    else if acc.length = 30 then ([], [], ln, 5)
    else msgF n (acc ++ [((s.take (Lib.index s [13, 10]).toNat).take (Lib.index (s.take (Lib.index s [13, 10]).toNat) [58]).toNat, (s.take (Lib.index s [13, 10]).toNat).drop ((Lib.index (s.take (Lib.index s [13, 10]).toNat) [58]).toNat + 1))]) (ln + 1) (s.drop ((Lib.index s [13, 10]).toNat + 2))
section
variable {n ln e c : Nat} {acc : List (Tx × Tx)} {s : Tx}
theorem ms_short (h : Lib.index s [13, 10] < 0) : msgF (n + 1) acc ln s = ([], [], ln, 4) := if_pos h
theorem ms_end (h : Lib.index s [13, 10] = (e : Nat)) (ht : s.take e = []) : msgF (n + 1) acc ln s = (acc, s.drop (e + 2), 0, 0) := by
  rw [msgF, h, if_neg (by omega), if_pos (by simpa using ht)]; rfl
theorem ms_glue (h : Lib.index s [13, 10] = (e : Nat)) (ht : ¬ s.take e = []) (hb : isBl ((s.take e).getD 0 0) = true) (ha : 0 < acc.length) : msgF (n + 1) acc ln s = msgF n (glue acc (s.take e)) (ln + 1) (s.drop (e + 2)) := by
  rw [msgF, h, if_neg (by omega), if_neg (by simpa using ht), if_pos (by simpa using ⟨hb, ha⟩)]; rfl
theorem ms_form1 (h : Lib.index s [13, 10] = (e : Nat)) (ht : ¬ s.take e = []) (hb : ¬ (isBl ((s.take e).getD 0 0) = true ∧ 0 < acc.length)) (hc : Lib.index (s.take e) [58] < 0) : msgF (n + 1) acc ln s = ([], [], ln, 3) := by
  rw [msgF, h, if_neg (by omega), if_neg (by simpa using ht), if_neg (by simpa using hb), if_pos (by simpa using hc)]
theorem ms_form2 (h : Lib.index s [13, 10] = (e : Nat)) (ht : ¬ s.take e = []) (hb : ¬ (isBl ((s.take e).getD 0 0) = true ∧ 0 < acc.length)) (hc : Lib.index (s.take e) [58] = (c : Nat)) (hn : nmL ((s.take e).take c) = false) : msgF (n + 1) acc ln s = ([], [], ln, 3) := by
  rw [msgF, h, if_neg (by omega), if_neg (by simpa using ht), if_neg (by simpa using hb), Int.toNat_natCast, hc, if_neg (by omega), if_pos (by simpa using hn)]
theorem ms_full (h : Lib.index s [13, 10] = (e : Nat)) (ht : ¬ s.take e = []) (hb : ¬ (isBl ((s.take e).getD 0 0) = true ∧ 0 < acc.length)) (hc : Lib.index (s.take e) [58] = (c : Nat)) (hn : nmL ((s.take e).take c) = true) (ha : acc.length = 30) : msgF (n + 1) acc ln s = ([], [], ln, 5) := by
  rw [msgF, h, if_neg (by omega), if_neg (by simpa using ht), if_neg (by simpa using hb), Int.toNat_natCast, hc, if_neg (by omega), Int.toNat_natCast, if_neg (by simp [hn]), if_pos ha]
theorem ms_add (h : Lib.index s [13, 10] = (e : Nat)) (ht : ¬ s.take e = []) (hb : ¬ (isBl ((s.take e).getD 0 0) = true ∧ 0 < acc.length)) (hc : Lib.index (s.take e) [58] = (c : Nat)) (hn : nmL ((s.take e).take c) = true) (ha : ¬ acc.length = 30) : msgF (n + 1) acc ln s = msgF n (acc ++ [((s.take e).take c, (s.take e).drop (c + 1))]) (ln + 1) (s.drop (e + 2)) := by
  rw [msgF, h, if_neg (by omega), if_neg (by simpa using ht), if_neg (by simpa using hb), Int.toNat_natCast, hc, if_neg (by omega), Int.toNat_natCast, if_neg (by simp [hn]), if_neg ha]
end
def trF (f : Tx × Tx) : Tx × Tx := (f.1, trimS f.2)
def msgV (s : Tx) : List (Tx × Tx) × Tx × Nat × Int := if 2000 < s.length then ([], [], 0, 1) else ((msgF (s.length + 1) [] 0 s).1.map trF, (msgF (s.length + 1) [] 0 s).2)
theorem msgV_big {s : Tx} (h : 2000 < s.length) : msgV s = ([], [], 0, 1) := if_pos h
theorem msgV_of {s q : Tx} {m ln : Nat} {acc : List (Tx × Tx)} {x : List (Tx × Tx) × Tx × Nat × Int} (h : ¬ 2000 < s.length) (h2 : msgF m acc ln q = msgF (s.length + 1) [] 0 s) (h3 : msgF m acc ln q = x) : msgV s = (x.1.map trF, x.2) := by
  unfold msgV; rw [if_neg h, ← h2, h3]
def FOk (acc : List (Tx × Tx)) (n : Nat) : Prop := ∀ f ∈ acc, f.1.length ≤ 2000 ∧ f.2.length + n ≤ 2000
theorem FOk.nil (n : Nat) : FOk [] n := fun f hf => by cases hf
theorem FOk.le {acc : List (Tx × Tx)} {n m : Nat} (h : FOk acc n) (hm : m ≤ n) : FOk acc m := fun f hf => ⟨(h f hf).1, by have := (h f hf).2; omega⟩
theorem FOk.get {acc : List (Tx × Tx)} {n i : Nat} (h : FOk acc n) (hi : i < acc.length) : (acc.getD i ([], [])).1.length ≤ 2000 ∧ (acc.getD i ([], [])).2.length + n ≤ 2000 := by
  have := h (acc[i]'hi) (List.getElem_mem hi)
  simpa [List.getD, hi] using this
theorem FOk.glue {acc : List (Tx × Tx)} {n m : Nat} {t : Tx} (h : FOk acc n) (ha : 0 < acc.length) (hm : m + t.length ≤ n) : FOk (glue acc t) m := fun f hf => by
  rcases List.mem_or_eq_of_mem_set hf with hf | rfl
  · exact h.le (by omega) f hf
  · obtain ⟨h1, h2⟩ := h.get (i := acc.length - 1) (by omega)
    exact ⟨h1, by simp only [List.length_append]; omega⟩
theorem FOk.add {acc : List (Tx × Tx)} {n m : Nat} {x y : Tx} (h : FOk acc n) (hm : m ≤ n) (hx : x.length ≤ 2000) (hy : y.length + m ≤ 2000) : FOk (acc ++ [(x, y)]) m := fun f hf => by
  rcases List.mem_append.1 hf with hf | hf
  · exact h.le hm f hf
  · rw [List.mem_singleton.1 hf]; exact ⟨hx, hy⟩
/-- trimmed up to a place -/
def mixT (acc : List (Tx × Tx)) (k : Nat) : List (Tx × Tx) := (acc.take k).map trF ++ acc.drop k
theorem mixT_0 (acc : List (Tx × Tx)) : mixT acc 0 = acc := by simp [mixT]
@[go_sem] theorem mixT_len (acc : List (Tx × Tx)) (k : Nat) : (mixT acc k).length = acc.length := by simp [mixT]; omega
theorem mixT_all {acc : List (Tx × Tx)} {k : Nat} (h : acc.length ≤ k) : mixT acc k = acc.map trF := by
  unfold mixT; rw [List.take_of_length_le h, List.drop_eq_nil_of_le h, List.append_nil]
theorem mixT_get {acc : List (Tx × Tx)} {k : Nat} (h : k < acc.length) : (mixT acc k).getD k ([], []) = acc.getD k ([], []) := by
  unfold mixT
  have hl : ((acc.take k).map trF).length = k := by simp; omega
  rw [List.getD_eq_getElem?_getD, List.getElem?_append_right (by omega), hl, Nat.sub_self, List.drop_eq_getElem_cons h]
  simp [List.getD, h]
theorem mixT_set {acc : List (Tx × Tx)} {k : Nat} (h : k < acc.length) : (mixT acc k).set k ((acc.getD k ([], [])).1, trimS (acc.getD k ([], [])).2) = mixT acc (k + 1) := by
  unfold mixT
  have hl : ((acc.take k).map trF).length = k := by simp; omega
  rw [List.set_append_right _ _ (by omega), hl, Nat.sub_self, List.drop_eq_getElem_cons h, List.set_cons_zero, List.take_add_one, List.getElem?_eq_getElem h, List.map_append, List.append_assoc]
  congr 1
  simp [List.getD, h, trF]
theorem lix {s sub : Tx} {e : Nat} (h : Lib.index s sub = (e : Nat)) : e + sub.length ≤ s.length := by
  have := Lib.index_room s sub (by omega)
  omega
end Go.Proofs.YthhfbolhlbgbgaaDoor

namespace Go.Proofs.YthhfbolhlbgbgaaDoor
set_option linter.unusedSimpArgs false
set_option linter.unusedVariables false
theorem tk_len (q : Tx) (e : Nat) (h : e ≤ q.length) : (q.take e).length = e := by simp; omega
theorem isBl_or {c : UInt8} : isBl c = true ↔ ((c.toNat : Int) = 32 ∨ (c.toNat : Int) = 9) := by simp [isBl]
theorem msF1 {l : List (Tx × Tx)} (h : l = []) : fldsD (l.map trF) = [] := by rw [h]; rfl
theorem gt0N {n : Nat} (h : 0 < n) : (n = 0) = False := by simp; omega
theorem mrow_set (l : List (Tx × Tx)) (t : Tx) : l.set (l.length - 1) ((l.getD (l.length - 1) ([], [])).1, (l.getD (l.length - 1) ([], [])).2 ++ t) = glue l t := rfl
set_option maxRecDepth 4000 in
set_option maxHeartbeats 1000000 in
theorem Parse_c (T : Tbl) (hL : LibT T) (s : Tx) : PC Tryd.prog T 36 [.d (.str s)] (.tup [.agg [.d (.slc 2 (fldsD (msgV s).1)), .d (.str (msgV s).2.1)], .d (.int .i64 ((msgV s).2.2.1 : Nat)), .d (.int .i64 (msgV s).2.2.2)]) := by
  refine ⟨Tryd.call36, PCall.enterS Tryd.func36 rfl Tryd.ntmps36 rfl fun hb => ?_⟩
  simp only [go_sem, Tryd.results36]
  refine AWp.rs fun K1 hK1 => ?_
  try simp only [go_sem, icast, natT, fldsD_len, Nat.zero_add, List.take_length]
  intro b2
  first | intro fb2 | have fb2 := True.intro
  try simp only [freshL] at fb2
  refine hK1 _ _ ?_
  try clear hK1 K1
  refine AWp.seq fun K2 hK2 => ?_
  refine AWp.rs fun K3 hK3 => ?_
  try simp only [go_sem, icast, natT, fldsD_len, Nat.zero_add, List.take_length, fb2]
  refine hK3 _ _ ?_
  try clear hK3 K3
  refine AWp.mask [true, true, false, false, false, false, true] rfl ?_
  simp only [go_sem]
  refine AWp.cond _ rfl (fun hc0 => ?_) (fun hc0 => ?_)
  · skip
    try simp only [decide_eq_true_eq, decide_eq_false_iff_not, Bool.not_eq_true', Bool.not_eq_false', Bool.and_eq_true, Bool.or_eq_true, Bool.and_eq_false_iff, Bool.or_eq_false_iff, Int.not_lt, Int.not_le, beq_iff_eq, beq_eq_false_iff_ne, ne_eq, Bool.not_eq_true, Bool.not_eq_false] at hc0
    refine AWp.rs fun K4 hK4 => ?_
    try simp only [go_sem, icast, natT, fldsD_len, Nat.zero_add, List.take_length, fb2]
    refine hK4 _ _ ?_
    try clear hK4 K4
    refine AWp.ret ?_
    try simp only [go_sem, icast, natT, fldsD_len, Nat.zero_add, List.take_length, fb2]
    rw [msgV_big (by omega)]; simp [LeA, LeL, LeD, fldsD]
  · skip
    try simp only [decide_eq_true_eq, decide_eq_false_iff_not, Bool.not_eq_true', Bool.not_eq_false', Bool.and_eq_true, Bool.or_eq_true, Bool.and_eq_false_iff, Bool.or_eq_false_iff, Int.not_lt, Int.not_le, beq_iff_eq, beq_eq_false_iff_ne, ne_eq, Bool.not_eq_true, Bool.not_eq_false] at hc0
    have hle0 : ¬ 2000 < s.length := by omega
    refine AWp.skip ?_
    refine thenQ_n ?_
    refine hK2 _ _ ?_
    try clear hK2 K2
    refine AWp.rs fun K5 hK5 => ?_
    try simp only [go_sem, icast, natT, fldsD_len, Nat.zero_add, List.take_length, fb2]
    intro b5
    first | intro fb5 | have fb5 := True.intro
    try simp only [freshL] at fb5
    refine hK5 _ _ ?_
    try clear hK5 K5
    refine AWp.rs fun K6 hK6 => ?_
    try simp only [go_sem, icast, natT, fldsD_len, Nat.zero_add, List.take_length, fb2, fb5]
    refine hK6 _ _ ?_
    try clear hK6 K6
    refine AWp.block ?_
    refine AWp.mask [true, true, true, true] rfl ?_
    simp only [go_sem]
    refine AWp.wkH [(b5, ⟨2, 1, [[.full 2 [], .d (.str [])]]⟩), (b2, ⟨2, 1, [[.nils, .d (.str [])]]⟩)] (by simp [LeObs, LeRows, LeA, LeL, LeD, AV.one]) ?_
    refine AWp.loopS [false, true, true] [true, false, false, true] (fun n lc hc => ∃ (m ln bf cf : Nat) (acc : List (Tx × Tx)) (q : Tx), n = q.length ∧ EqS lc [(0, .d (.str q)), (6, .d (.int .i64 (ln : Nat)))] ∧ EqS hc (⟨mO bf 2 cf (dRows (fldsD acc)) [(b5, ⟨2, 1, [[mA bf 2 cf acc.length, .d (.str [])]]⟩), (b2, ⟨2, 1, [[.nils, .d (.str [])]]⟩)], []⟩) ∧ (q.length ≤ m) ∧ (msgF (m + 1) acc ln q = msgF (s.length + 1) [] 0 s) ∧ (acc.length ≤ 30) ∧ (ln + q.length ≤ 2000) ∧ (FOk acc q.length) ∧ (cf = 0 → acc = []) ∧ (((bf == b5) = false ∧ (b5 == bf) = false) ∧ (bf == b2) = false ∧ (b2 == bf) = false)) rfl ?_ ?_
    · refine ⟨_, s.length, 0, (b5 + b2 + 1), 0, [], s, rfl, ?_, ?_, ?_, ?_, ?_, ?_, ?_, ?_, ?_⟩
      · (try simp only [go_sem, icast, natT, fldsD_len, Nat.zero_add, List.take_length, fb2, fb5]) <;> first | exact ⟨rfl⟩ | (constructor; rfl)
      · (try simp only [go_sem, icast, natT, fldsD_len, Nat.zero_add, List.take_length, fb2, fb5]) <;> first | exact ⟨rfl⟩ | (constructor; simp [mO, mA, dRows, fldsD]; done)
      all_goals (first | omega | rfl | exact FOk.nil _ | (intro _; rfl) | (simp <;> omega))
    · rintro _ _ _ ⟨m, ln, bf, cf, acc, q, rfl, ⟨rfl⟩, ⟨rfl⟩, h1, h2, h3, h4, h5, h6, h7⟩
      simp only [go_sem]
      refine AWp.seq fun K7 hK7 => ?_
      refine AWp.block ?_
      rcases (show Lib.index q [13, 10] < 0 ∨ 0 ≤ Lib.index q [13, 10] by omega) with hx | hx
      rotate_left
      rcases Nat.eq_zero_or_pos cf with hz | hz
      rotate_right
      · skip
        refine AWp.rs fun K8 hK8 => ?_
        try simp only [go_sem, icast, natT, fldsD_len, Nat.zero_add, List.take_length, fb2, fb5, getO_mO h7.2.1, setO_mO h7.2.1]
        refine DW.pcr rfl rfl rfl rfl (Cut_no T hL q [13, 10] (by omega) hx) rfl rfl ?_
        try simp only [go_sem, icast, natT, fldsD_len, Nat.zero_add, List.take_length, fb2, fb5, getO_mO h7.2.1, setO_mO h7.2.1]
        refine hK8 _ _ ?_
        try clear hK8 K8
        refine AWp.mask [false, true, true, true, true, true, true] rfl ?_
        simp only [go_sem]
        refine AWp.seq fun K9 hK9 => ?_
        refine AWp.block ?_
        refine AWp.rs fun K10 hK10 => ?_
        try simp only [go_sem, icast, natT, fldsD_len, Nat.zero_add, List.take_length, fb2, fb5, getO_mO h7.2.1, setO_mO h7.2.1]
        refine hK10 _ _ ?_
        try clear hK10 K10
        refine AWp.cond _ rfl (fun hc1 => ?_) (fun hc1 => ?_)
        · skip
          try simp only [decide_eq_true_eq, decide_eq_false_iff_not, Bool.not_eq_true', Bool.not_eq_false', Bool.and_eq_true, Bool.or_eq_true, Bool.and_eq_false_iff, Bool.or_eq_false_iff, Int.not_lt, Int.not_le, beq_iff_eq, beq_eq_false_iff_ne, ne_eq, Bool.not_eq_true, Bool.not_eq_false] at hc1
          refine AWp.rs fun K11 hK11 => ?_
          try simp only [go_sem, icast, natT, fldsD_len, Nat.zero_add, List.take_length, fb2, fb5, getO_mO h7.2.1, setO_mO h7.2.1]
          refine hK11 _ _ ?_
          try clear hK11 K11
          refine AWp.mask [true, true, true] rfl ?_
          simp only [go_sem]
          refine AWp.ret ?_
          try simp only [go_sem, icast, natT, fldsD_len, Nat.zero_add, List.take_length, fb2, fb5, getO_mO h7.2.1, setO_mO h7.2.1]
          rw [msgV_of hle0 h2 (ms_short hx)]; simp [LeA, LeL, LeD, fldsD]
        · skip
          exact absurd hc1 (by simp)
      · skip
        obtain ⟨e, he⟩ := Int.eq_ofNat_of_zero_le hx
        have hle := lix he
        simp only [List.length_cons, List.length_nil] at hle
        have htl := tk_len q e (by omega)
        subst hz
        obtain rfl : acc = [] := h6 rfl
        simp only [mA_nil, mO_nil]
        refine AWp.rs fun K8 hK8 => ?_
        try simp only [go_sem, icast, natT, fldsD_len, Nat.zero_add, List.take_length, fb2, fb5]
        refine DW.pcr rfl rfl rfl rfl (Cut_yes T hL q [13, 10] (by omega) e he) rfl rfl ?_
        try simp only [go_sem, icast, natT, fldsD_len, Nat.zero_add, List.take_length, fb2, fb5]
        refine hK8 _ _ ?_
        try clear hK8 K8
        refine AWp.mask [false, true, true, true, true, true, true] rfl ?_
        simp only [go_sem]
        refine AWp.seq fun K12 hK12 => ?_
        refine AWp.block ?_
        refine AWp.rs fun K13 hK13 => ?_
        try simp only [go_sem, icast, natT, fldsD_len, Nat.zero_add, List.take_length, fb2, fb5]
        refine hK13 _ _ ?_
        try clear hK13 K13
        refine AWp.cond _ rfl (fun hc1 => ?_) (fun hc1 => ?_)
        · skip
          exact absurd hc1 (by simp)
        · skip
          try simp only [decide_eq_true_eq, decide_eq_false_iff_not, Bool.not_eq_true', Bool.not_eq_false', Bool.and_eq_true, Bool.or_eq_true, Bool.and_eq_false_iff, Bool.or_eq_false_iff, Int.not_lt, Int.not_le, beq_iff_eq, beq_eq_false_iff_ne, ne_eq, Bool.not_eq_true, Bool.not_eq_false] at hc1
          refine AWp.rs fun K14 hK14 => ?_
          try simp only [go_sem, icast, natT, fldsD_len, Nat.zero_add, List.take_length, fb2, fb5]
          refine hK14 _ _ ?_
          try clear hK14 K14
          refine AWp.mask [true, true, true, true, true, false, false, false, false, true] rfl ?_
          simp only [go_sem]
          refine AWp.cond _ rfl (fun hc2 => ?_) (fun hc2 => ?_)
          · skip
            try simp only [decide_eq_true_eq, decide_eq_false_iff_not, Bool.not_eq_true', Bool.not_eq_false', Bool.and_eq_true, Bool.or_eq_true, Bool.and_eq_false_iff, Bool.or_eq_false_iff, Int.not_lt, Int.not_le, beq_iff_eq, beq_eq_false_iff_ne, ne_eq, Bool.not_eq_true, Bool.not_eq_false] at hc2
            refine AWp.rs fun K15 hK15 => ?_
            try simp only [go_sem, icast, natT, fldsD_len, Nat.zero_add, List.take_length, fb2, fb5]
            refine hK15 _ _ ?_
            try clear hK15 K15
            refine AWp.mask [true, true] rfl ?_
            simp only [go_sem]
            refine AWp.seq fun K16 hK16 => ?_
            refine AWp.rs fun K17 hK17 => ?_
            try simp only [go_sem, icast, natT, fldsD_len, Nat.zero_add, List.take_length, fb2, fb5]
            refine hK17 _ _ ?_
            try clear hK17 K17
            refine AWp.block ?_
            refine AWp.mask [true, true, false, false, true, true] rfl ?_
            simp only [go_sem]
            refine AWp.loopS [true, true, true] [false, false, false, true] (fun n lc hc => ∃ (k : Nat), n = 0 ∧ EqS lc [(68, .d (.int .i64 k))] ∧ EqS hc (⟨[(b5, ⟨2, 1, [[.full 2 [], .d (.str (q.drop (e + 2)))]]⟩), (b2, ⟨2, 1, [[.nils, .d (.str [])]]⟩)], []⟩)) rfl ?_ ?_
            · refine ⟨_, 0, rfl, ?_, ?_⟩
              · (try simp only [go_sem, icast, natT, fldsD_len, Nat.zero_add, List.take_length, fb2, fb5]) <;> first | exact ⟨rfl⟩ | (constructor; simp; done)
              · (try simp only [go_sem, icast, natT, fldsD_len, Nat.zero_add, List.take_length, fb2, fb5]) <;> first | exact ⟨rfl⟩ | (constructor; simp; done)
            · rintro _ _ _ ⟨k, rfl, ⟨rfl⟩, ⟨rfl⟩⟩
              simp only [go_sem]
              refine AWp.rs fun K18 hK18 => ?_
              try simp only [go_sem, icast, natT, fldsD_len, Nat.zero_add, List.take_length, fb2, fb5]
              refine hK18 _ _ ?_
              try clear hK18 K18
              refine AWp.seq fun K19 hK19 => ?_
              refine AWp.cond _ rfl (fun hc3 => ?_) (fun hc3 => ?_)
              · skip
                exfalso
                simp at hc3
                omega
              · skip
                try simp only [decide_eq_true_eq, decide_eq_false_iff_not, Bool.not_eq_true', Bool.not_eq_false', Bool.and_eq_true, Bool.or_eq_true, Bool.and_eq_false_iff, Bool.or_eq_false_iff, Int.not_lt, Int.not_le, beq_iff_eq, beq_eq_false_iff_ne, ne_eq, Bool.not_eq_true, Bool.not_eq_false] at hc3
                refine AWp.exit ?_
                refine thenQ_e (thenQ_e (blkQ_e (thenQ_n ?_)))
                refine hK16 _ _ ?_
                try clear hK16 K16
                refine AWp.rs fun K20 hK20 => ?_
                try simp only [go_sem, icast, natT, fldsD_len, Nat.zero_add, List.take_length, fb2, fb5]
                refine hK20 _ _ ?_
                try clear hK20 K20
                refine AWp.mask [true, true, true] rfl ?_
                simp only [go_sem]
                refine AWp.ret ?_
                try simp only [go_sem, icast, natT, fldsD_len, Nat.zero_add, List.take_length, fb2, fb5]
                rw [msgV_of hle0 h2 (ms_end he hc2)]; simp [LeA, LeL, LeD, fldsD]
          · skip
            try simp only [decide_eq_true_eq, decide_eq_false_iff_not, Bool.not_eq_true', Bool.not_eq_false', Bool.and_eq_true, Bool.or_eq_true, Bool.and_eq_false_iff, Bool.or_eq_false_iff, Int.not_lt, Int.not_le, beq_iff_eq, beq_eq_false_iff_ne, ne_eq, Bool.not_eq_true, Bool.not_eq_false] at hc2
            have htn : ¬ q.take e = [] := by simpa using hc2
            have htp : 0 < (q.take e).length := List.length_pos_iff.2 htn
            refine AWp.rs fun K21 hK21 => ?_
            try simp only [go_sem, icast, natT, fldsD_len, Nat.zero_add, List.take_length, fb2, fb5]
            (repeat (with_reducible refine And.intro ?_ ?_; (first | omega | (exact nfB) | (intro hg; refine ⟨hg, ?_⟩; omega))))
            refine hK21 _ _ ?_
            try clear hK21 K21
            refine AWp.mask [true, true, true, true, true, false, true] rfl ?_
            simp only [go_sem]
            refine AWp.cond _ rfl (fun hc4 => ?_) (fun hc4 => ?_)
            · skip
              exfalso
              simp at hc4
            · skip
              try simp only [decide_eq_true_eq, decide_eq_false_iff_not, Bool.not_eq_true', Bool.not_eq_false', Bool.and_eq_true, Bool.or_eq_true, Bool.and_eq_false_iff, Bool.or_eq_false_iff, Int.not_lt, Int.not_le, beq_iff_eq, beq_eq_false_iff_ne, ne_eq, Bool.not_eq_true, Bool.not_eq_false] at hc4
              have hnb : ¬ (isBl ((q.take e).getD 0 0) = true ∧ 0 < ([] : List (Tx × Tx)).length) := by simp
              rcases (show Lib.index (q.take e) [58] < 0 ∨ 0 ≤ Lib.index (q.take e) [58] by omega) with hy | hy
              · skip
                refine AWp.rs fun K22 hK22 => ?_
                try simp only [go_sem, icast, natT, fldsD_len, Nat.zero_add, List.take_length, fb2, fb5]
                refine DW.pcr rfl rfl rfl rfl (Cut_no T hL (q.take e) [58] (by omega) hy) rfl rfl ?_
                try simp only [go_sem, icast, natT, fldsD_len, Nat.zero_add, List.take_length, fb2, fb5]
                refine hK22 _ _ ?_
                try clear hK22 K22
                refine AWp.mask [true, true, true, false, true, true, true, true] rfl ?_
                simp only [go_sem]
                refine AWp.seq fun K23 hK23 => ?_
                refine AWp.rs fun K24 hK24 => ?_
                try simp only [go_sem, icast, natT, fldsD_len, Nat.zero_add, List.take_length, fb2, fb5]
                refine DW.pcgr rfl rfl rfl rfl rfl (fun hg => fname_c T _ (by simp only [List.length_take]; omega)) (fun hg => by (try simp only [go_sem, icast, natT, fldsD_len, Nat.zero_add, List.take_length, fb2, fb5]) <;> first | exact hg | (exfalso; simp at hg; done) | (simpa using hg) | grind) rfl rfl ?_
                try simp only [go_sem, icast, natT, fldsD_len, Nat.zero_add, List.take_length, fb2, fb5]
                (repeat (with_reducible refine And.intro ?_ ?_; decide))
                refine hK24 _ _ ?_
                try clear hK24 K24
                refine AWp.mask [true, true, true, true, true, true, false, false, false, false, false, false, false, true] rfl ?_
                simp only [go_sem]
                refine AWp.cond _ rfl (fun hc5 => ?_) (fun hc5 => ?_)
                · skip
                  try simp only [decide_eq_true_eq, decide_eq_false_iff_not, Bool.not_eq_true', Bool.not_eq_false', Bool.and_eq_true, Bool.or_eq_true, Bool.and_eq_false_iff, Bool.or_eq_false_iff, Int.not_lt, Int.not_le, beq_iff_eq, beq_eq_false_iff_ne, ne_eq, Bool.not_eq_true, Bool.not_eq_false] at hc5
                  refine AWp.rs fun K25 hK25 => ?_
                  try simp only [go_sem, icast, natT, fldsD_len, Nat.zero_add, List.take_length, fb2, fb5]
                  refine hK25 _ _ ?_
                  try clear hK25 K25
                  refine AWp.mask [true, true, true] rfl ?_
                  simp only [go_sem]
                  refine AWp.ret ?_
                  try simp only [go_sem, icast, natT, fldsD_len, Nat.zero_add, List.take_length, fb2, fb5]
                  rw [msgV_of hle0 h2 (ms_form1 he htn hnb hy)]; simp [LeA, LeL, LeD, fldsD]
                · skip
                  exact absurd hc5 (by simp)
              · skip
                obtain ⟨c, hc⟩ := Int.eq_ofNat_of_zero_le hy
                have hcl := lix hc
                simp only [List.length_cons, List.length_nil] at hcl
                refine AWp.rs fun K22 hK22 => ?_
                try simp only [go_sem, icast, natT, fldsD_len, Nat.zero_add, List.take_length, fb2, fb5]
                refine DW.pcr rfl rfl rfl rfl (Cut_yes T hL (q.take e) [58] (by omega) c hc) rfl rfl ?_
                try simp only [go_sem, icast, natT, fldsD_len, Nat.zero_add, List.take_length, fb2, fb5]
                refine hK22 _ _ ?_
                try clear hK22 K22
                refine AWp.mask [true, true, true, false, true, true, true, true] rfl ?_
                simp only [go_sem]
                refine AWp.seq fun K26 hK26 => ?_
                refine AWp.rs fun K27 hK27 => ?_
                try simp only [go_sem, icast, natT, fldsD_len, Nat.zero_add, List.take_length, fb2, fb5]
                refine DW.pcgr rfl rfl rfl rfl rfl (fun hg => fname_c T _ (by simp only [List.length_take]; omega)) (fun hg => by (try simp only [go_sem, icast, natT, fldsD_len, Nat.zero_add, List.take_length, fb2, fb5]) <;> first | exact hg | (exfalso; simp at hg; done) | (simpa using hg) | grind) rfl rfl ?_
                try simp only [go_sem, icast, natT, fldsD_len, Nat.zero_add, List.take_length, fb2, fb5]
                (repeat (with_reducible refine And.intro ?_ ?_; decide))
                refine hK27 _ _ ?_
                try clear hK27 K27
                refine AWp.mask [true, true, true, true, true, true, false, false, false, false, false, false, false, true] rfl ?_
                simp only [go_sem]
                refine AWp.cond _ rfl (fun hc5 => ?_) (fun hc5 => ?_)
                · skip
                  try simp only [decide_eq_true_eq, decide_eq_false_iff_not, Bool.not_eq_true', Bool.not_eq_false', Bool.and_eq_true, Bool.or_eq_true, Bool.and_eq_false_iff, Bool.or_eq_false_iff, Int.not_lt, Int.not_le, beq_iff_eq, beq_eq_false_iff_ne, ne_eq, Bool.not_eq_true, Bool.not_eq_false] at hc5
                  refine AWp.rs fun K28 hK28 => ?_
                  try simp only [go_sem, icast, natT, fldsD_len, Nat.zero_add, List.take_length, fb2, fb5]
                  refine hK28 _ _ ?_
                  try clear hK28 K28
                  refine AWp.mask [true, true, true] rfl ?_
                  simp only [go_sem]
                  refine AWp.ret ?_
                  try simp only [go_sem, icast, natT, fldsD_len, Nat.zero_add, List.take_length, fb2, fb5]
                  rw [msgV_of hle0 h2 (ms_form2 he htn hnb hc (by simpa using hc5))]; simp [LeA, LeL, LeD, fldsD]
                · skip
                  try simp only [decide_eq_true_eq, decide_eq_false_iff_not, Bool.not_eq_true', Bool.not_eq_false', Bool.and_eq_true, Bool.or_eq_true, Bool.and_eq_false_iff, Bool.or_eq_false_iff, Int.not_lt, Int.not_le, beq_iff_eq, beq_eq_false_iff_ne, ne_eq, Bool.not_eq_true, Bool.not_eq_false] at hc5
                  have hnm : nmL ((q.take e).take c) = true := by simpa using hc5
                  refine AWp.skip ?_
                  refine thenQ_n ?_
                  refine hK26 _ _ ?_
                  try clear hK26 K26
                  refine AWp.seq fun K29 hK29 => ?_
                  refine AWp.rs fun K30 hK30 => ?_
                  try simp only [go_sem, icast, natT, fldsD_len, Nat.zero_add, List.take_length, fb2, fb5]
                  refine hK30 _ _ ?_
                  try clear hK30 K30
                  refine AWp.mask [true, true, true, true, true, true, false, false, false, false, true] rfl ?_
                  simp only [go_sem]
                  refine AWp.cond _ rfl (fun hc6 => ?_) (fun hc6 => ?_)
                  · skip
                    exfalso
                    simp at hc6
                  · skip
                    try simp only [decide_eq_true_eq, decide_eq_false_iff_not, Bool.not_eq_true', Bool.not_eq_false', Bool.and_eq_true, Bool.or_eq_true, Bool.and_eq_false_iff, Bool.or_eq_false_iff, Int.not_lt, Int.not_le, beq_iff_eq, beq_eq_false_iff_ne, ne_eq, Bool.not_eq_true, Bool.not_eq_false] at hc6
                    refine AWp.skip ?_
                    refine thenQ_n ?_
                    refine hK29 _ _ ?_
                    try clear hK29 K29
                    refine AWp.rk fun K31 hK31 => ?_
                    try simp only [go_sem, icast, natT, fldsD_len, Nat.zero_add, List.take_length, fb2, fb5]
                    refine DW.appM (b0 := 0) (c0 := 0) (rows := []) rfl rfl rfl rfl (fun _ => rfl) rfl (show slI Tryd.prog 62 = some (118, 2, 32) by simp only [go_sem]) rfl rfl (by simp) rfl (by first | decide | (simp; done) | omega) (by first | omega | (simp only [go_sem] <;> omega) | (simp only [go_sem, List.length_take, List.length_map, List.length_append, List.length_cons, List.length_nil] <;> omega) | (simp <;> omega)) (by first | omega | (simp only [go_sem] <;> omega) | (simp only [go_sem, List.length_take, List.length_map, List.length_append, List.length_cons, List.length_nil] <;> omega) | (simp <;> omega)) fun bm1 cm1 hcm1 fbm1 => ?_
                    try simp only [freshL] at fbm1
                    try simp only [go_sem, icast, natT, fldsD_len, Nat.zero_add, List.take_length, fb2, fb5, fbm1]
                    refine hK31 _ _ ?_
                    try clear hK31 K31
                    refine blkQ_n (thenQ_n ?_)
                    refine hK12 _ _ ?_
                    try clear hK12 K12
                    refine AWp.mask [true, true, true, true] rfl ?_
                    simp only [go_sem]
                    refine AWp.rk fun K32 hK32 => ?_
                    try simp only [go_sem, icast, natT, fldsD_len, Nat.zero_add, List.take_length, fb2, fb5, fbm1]
                    refine hK32 _ _ ?_
                    try clear hK32 K32
                    refine blkQ_n (thenQ_n ?_)
                    refine hK7 _ _ ?_
                    try clear hK7 K7
                    refine AWp.rk fun K33 hK33 => ?_
                    try simp only [go_sem, icast, natT, fldsD_len, Nat.zero_add, List.take_length, fb2, fb5, fbm1]
                    (repeat (with_reducible refine And.intro ?_ ?_; omega))
                    refine hK33 _ _ ?_
                    try clear hK33 K33
                    refine thenQ_n ?_
                    refine EndS.mkr [false, true, true] [true, false, false, true] rfl ?_ ?_
                    · (try simp only [go_sem, icast, natT, fldsD_len, Nat.zero_add, List.take_length, fb2, fb5, fbm1]) <;> try rfl
                    refine .e ⟨_, ?_, (m - 1), (ln + 1), bm1, cm1, ([] ++ [((q.take e).take c, (q.take e).drop (c + 1))]), (q.drop (e + 2)), rfl, ?_, ?_, ?_, ?_, ?_, ?_, ?_, ?_, ?_⟩
                    · first | omega | (simp; omega) | (rw [List.length_drop]; omega)
                    · (try simp only [go_sem, icast, natT, fldsD_len, Nat.zero_add, List.take_length, fb2, fb5, fbm1]) <;> first | exact ⟨rfl⟩ | (constructor; simp; done)
                    · (try simp only [go_sem, icast, natT, fldsD_len, Nat.zero_add, List.take_length, fb2, fb5, fbm1]) <;> first | exact ⟨rfl⟩ | (constructor; rw [mO_pos hcm1, mA_pos hcm1]; simp [dRows, fldsD, fldD]; done)
                    · rw [List.length_drop]; omega
                    · rw [show m - 1 + 1 = m by omega, ← ms_add he htn hnb hc hnm (by first | omega | (simp; done))]; exact h2
                    · (simp <;> omega)
                    · rw [List.length_drop]; omega
                    · exact h5.add (by rw [List.length_drop]; omega) (by simp; omega) (by rw [List.length_drop, List.length_drop]; omega)
                    · intro hq; omega
                    · simp_all [freshL]; done
      · skip
        obtain ⟨e, he⟩ := Int.eq_ofNat_of_zero_le hx
        have hle := lix he
        simp only [List.length_cons, List.length_nil] at hle
        have htl := tk_len q e (by omega)
        simp only [mA_pos hz, mO_pos hz]
        refine AWp.rs fun K8 hK8 => ?_
        try simp only [go_sem, icast, natT, fldsD_len, Nat.zero_add, List.take_length, fb2, fb5, h7]
        refine DW.pcr rfl rfl rfl rfl (Cut_yes T hL q [13, 10] (by omega) e he) rfl rfl ?_
        try simp only [go_sem, icast, natT, fldsD_len, Nat.zero_add, List.take_length, fb2, fb5, h7]
        refine hK8 _ _ ?_
        try clear hK8 K8
        refine AWp.mask [false, true, true, true, true, true, true] rfl ?_
        simp only [go_sem]
        refine AWp.seq fun K34 hK34 => ?_
        refine AWp.block ?_
        refine AWp.rs fun K35 hK35 => ?_
        try simp only [go_sem, icast, natT, fldsD_len, Nat.zero_add, List.take_length, fb2, fb5, h7]
        refine hK35 _ _ ?_
        try clear hK35 K35
        refine AWp.cond _ rfl (fun hc1 => ?_) (fun hc1 => ?_)
        · skip
          exact absurd hc1 (by simp)
        · skip
          try simp only [decide_eq_true_eq, decide_eq_false_iff_not, Bool.not_eq_true', Bool.not_eq_false', Bool.and_eq_true, Bool.or_eq_true, Bool.and_eq_false_iff, Bool.or_eq_false_iff, Int.not_lt, Int.not_le, beq_iff_eq, beq_eq_false_iff_ne, ne_eq, Bool.not_eq_true, Bool.not_eq_false] at hc1
          refine AWp.rs fun K36 hK36 => ?_
          try simp only [go_sem, icast, natT, fldsD_len, Nat.zero_add, List.take_length, fb2, fb5, h7]
          refine hK36 _ _ ?_
          try clear hK36 K36
          refine AWp.mask [true, true, true, true, true, false, false, false, false, true] rfl ?_
          simp only [go_sem]
          refine AWp.cond _ rfl (fun hc2 => ?_) (fun hc2 => ?_)
          · skip
            try simp only [decide_eq_true_eq, decide_eq_false_iff_not, Bool.not_eq_true', Bool.not_eq_false', Bool.and_eq_true, Bool.or_eq_true, Bool.and_eq_false_iff, Bool.or_eq_false_iff, Int.not_lt, Int.not_le, beq_iff_eq, beq_eq_false_iff_ne, ne_eq, Bool.not_eq_true, Bool.not_eq_false] at hc2
            refine AWp.rs fun K37 hK37 => ?_
            try simp only [go_sem, icast, natT, fldsD_len, Nat.zero_add, List.take_length, fb2, fb5, h7]
            refine hK37 _ _ ?_
            try clear hK37 K37
            refine AWp.mask [true, true] rfl ?_
            simp only [go_sem]
            refine AWp.seq fun K38 hK38 => ?_
            refine AWp.rs fun K39 hK39 => ?_
            try simp only [go_sem, icast, natT, fldsD_len, Nat.zero_add, List.take_length, fb2, fb5, h7]
            refine hK39 _ _ ?_
            try clear hK39 K39
            refine AWp.block ?_
            refine AWp.mask [true, true, false, false, true, true] rfl ?_
            simp only [go_sem]
            refine AWp.loopS [true, true, true] [false, false, false, true] (fun n lc hc => ∃ (k : Nat), n = acc.length - k ∧ EqS lc [(68, .d (.int .i64 k))] ∧ EqS hc (⟨[(bf, ⟨2, cf, dRows (fldsD (mixT acc k))⟩), (b5, ⟨2, 1, [[.arr bf 2 acc.length cf, .d (.str (q.drop (e + 2)))]]⟩), (b2, ⟨2, 1, [[.nils, .d (.str [])]]⟩)], []⟩) ∧ (k ≤ acc.length)) rfl ?_ ?_
            · refine ⟨_, 0, rfl, ?_, ?_, ?_⟩
              · (try simp only [go_sem, icast, natT, fldsD_len, Nat.zero_add, List.take_length, fb2, fb5, h7]) <;> first | exact ⟨rfl⟩ | (constructor; simp; done)
              · (try simp only [go_sem, icast, natT, fldsD_len, Nat.zero_add, List.take_length, fb2, fb5, h7]) <;> first | exact ⟨rfl⟩ | (constructor; rw [mixT_0])
              all_goals (omega)
            · rintro _ _ _ ⟨k, rfl, ⟨rfl⟩, ⟨rfl⟩, g1⟩
              simp only [go_sem]
              refine AWp.rs fun K40 hK40 => ?_
              try simp only [go_sem, icast, natT, fldsD_len, Nat.zero_add, List.take_length, fb2, fb5, h7]
              refine hK40 _ _ ?_
              try clear hK40 K40
              refine AWp.seq fun K41 hK41 => ?_
              refine AWp.cond _ rfl (fun hc3 => ?_) (fun hc3 => ?_)
              · skip
                try simp only [decide_eq_true_eq, decide_eq_false_iff_not, Bool.not_eq_true', Bool.not_eq_false', Bool.and_eq_true, Bool.or_eq_true, Bool.and_eq_false_iff, Bool.or_eq_false_iff, Int.not_lt, Int.not_le, beq_iff_eq, beq_eq_false_iff_ne, ne_eq, Bool.not_eq_true, Bool.not_eq_false] at hc3
                have hlk : k < acc.length := by omega
                have hlk2 : k < (mixT acc k).length := by rw [mixT_len]; exact hlk
                have hfo := (h5.get hlk).2
                refine AWp.skip ?_
                refine thenQ_n ?_
                refine hK41 _ _ ?_
                try clear hK41 K41
                refine AWp.seq fun K42 hK42 => ?_
                refine AWp.block ?_
                refine AWp.rs fun K43 hK43 => ?_
                try simp only [go_sem, icast, natT, fldsD_len, Nat.zero_add, List.take_length, fb2, fb5, h7, frow_get hlk2, mixT_get hlk]
                refine hK43 _ _ ?_
                try clear hK43 K43
                refine AWp.dk true [0, 1, 2, 3, 4, 5, 6, 7, 8, 9, 10, 11, 12] rfl (by kernel_rfl) fun K44 hK44 => ?_
                try simp only [go_sem, icast, natT, fldsD_len, Nat.zero_add, List.take_length, fb2, fb5, h7, frow_get hlk2, mixT_get hlk]
                (repeat (with_reducible refine And.intro ?_ ?_; omega))
                refine DW.pcr rfl rfl rfl rfl (Trim_c T _ (by omega)) rfl rfl ?_
                try simp only [go_sem, icast, natT, fldsD_len, Nat.zero_add, List.take_length, fb2, fb5, h7, frow_get hlk2, mixT_get hlk]
                (repeat (with_reducible refine And.intro ?_ ?_; omega))
                refine hK44 _ _ ?_
                try clear hK44 K44
                refine blkQ_n (thenQ_n ?_)
                refine hK42 _ _ ?_
                try clear hK42 K42
                refine AWp.mask [true, true, false, true, true] rfl ?_
                simp only [go_sem]
                refine AWp.rk fun K45 hK45 => ?_
                try simp only [go_sem, icast, natT, fldsD_len, Nat.zero_add, List.take_length, fb2, fb5, h7, frow_get hlk2, mixT_get hlk]
                (repeat (with_reducible refine And.intro ?_ ?_; omega))
                refine hK45 _ _ ?_
                try clear hK45 K45
                refine thenQ_n ?_
                refine EndS.mk [true, true, true] [false, false, false, true] [] [] [bf, b5, b2] [] rfl ?_ ?_
                · (try simp only [go_sem, icast, natT, fldsD_len, Nat.zero_add, List.take_length, fb2, fb5, h7, frow_get hlk2, mixT_get hlk]) <;> try rfl
                refine .e ⟨_, ?_, k + 1, rfl, ?_, ?_, ?_⟩
                · first | omega | (simp; omega) | (grind)
                · (try simp only [go_sem, icast, natT, fldsD_len, Nat.zero_add, List.take_length, fb2, fb5, h7, frow_get hlk2, mixT_get hlk]) <;> first | exact ⟨rfl⟩ | (constructor; simp; done)
                · (try simp only [go_sem, icast, natT, fldsD_len, Nat.zero_add, List.take_length, fb2, fb5, h7, frow_get hlk2, mixT_get hlk]) <;> first | exact ⟨rfl⟩ | (constructor; rw [frow_set, mixT_set hlk])
                all_goals (first | omega | assumption | grind)
              · skip
                try simp only [decide_eq_true_eq, decide_eq_false_iff_not, Bool.not_eq_true', Bool.not_eq_false', Bool.and_eq_true, Bool.or_eq_true, Bool.and_eq_false_iff, Bool.or_eq_false_iff, Int.not_lt, Int.not_le, beq_iff_eq, beq_eq_false_iff_ne, ne_eq, Bool.not_eq_true, Bool.not_eq_false] at hc3
                obtain rfl : k = acc.length := by omega
                refine AWp.exit ?_
                refine thenQ_e (thenQ_e (blkQ_e (thenQ_n ?_)))
                refine hK38 _ _ ?_
                try clear hK38 K38
                rw [mixT_all (Nat.le_refl _)]
                refine AWp.ownMH (b := bf) (b' := b5) (i := 0) (j := 0) (ob := ⟨2, 1, [[.arr bf 2 acc.length cf, .d (.str (q.drop (e + 2)))]]⟩) (r := [.arr bf 2 acc.length cf, .d (.str (q.drop (e + 2)))]) (by simp [getO]) rfl rfl (by simp [fldsD]) (by decide) (fld_full _) fun tq ftq => ?_
                simp only [go_sem]
                · skip
                  refine AWp.rs fun K46 hK46 => ?_
                  try simp only [go_sem, icast, natT, fldsD_len, Nat.zero_add, List.take_length, fb2, fb5, h7]
                  refine hK46 _ _ ?_
                  try clear hK46 K46
                  refine AWp.mask [true, true, true] rfl ?_
                  simp only [go_sem]
                  refine AWp.ret ?_
                  try simp only [go_sem, icast, natT, fldsD_len, Nat.zero_add, List.take_length, fb2, fb5, h7]
                  rw [msgV_of hle0 h2 (ms_end he hc2)]; simp [LeA, LeL, LeD, fldsD]
          · skip
            try simp only [decide_eq_true_eq, decide_eq_false_iff_not, Bool.not_eq_true', Bool.not_eq_false', Bool.and_eq_true, Bool.or_eq_true, Bool.and_eq_false_iff, Bool.or_eq_false_iff, Int.not_lt, Int.not_le, beq_iff_eq, beq_eq_false_iff_ne, ne_eq, Bool.not_eq_true, Bool.not_eq_false] at hc2
            have htn : ¬ q.take e = [] := by simpa using hc2
            have htp : 0 < (q.take e).length := List.length_pos_iff.2 htn
            refine AWp.rs fun K47 hK47 => ?_
            try simp only [go_sem, icast, natT, fldsD_len, Nat.zero_add, List.take_length, fb2, fb5, h7]
            (repeat (with_reducible refine And.intro ?_ ?_; (first | omega | (exact nfB) | (intro hg; refine ⟨hg, ?_⟩; omega))))
            refine hK47 _ _ ?_
            try clear hK47 K47
            refine AWp.mask [true, true, true, true, true, false, true] rfl ?_
            simp only [go_sem]
            refine AWp.cond _ rfl (fun hc4 => ?_) (fun hc4 => ?_)
            · skip
              try simp only [decide_eq_true_eq, decide_eq_false_iff_not, Bool.not_eq_true', Bool.not_eq_false', Bool.and_eq_true, Bool.or_eq_true, Bool.and_eq_false_iff, Bool.or_eq_false_iff, Int.not_lt, Int.not_le, beq_iff_eq, beq_eq_false_iff_ne, ne_eq, Bool.not_eq_true, Bool.not_eq_false] at hc4
              have hap : 0 < acc.length := by omega
              have hbl := isBl_or.2 hc4.1
              have hfo := (h5.get (i := acc.length - 1) (by omega)).2
              refine AWp.rk fun K48 hK48 => ?_
              try simp only [go_sem, icast, natT, fldsD_len, Nat.zero_add, List.take_length, fb2, fb5, h7, nlen1 hap, frow_get (show acc.length - 1 < acc.length by omega)]
              (repeat (with_reducible refine And.intro ?_ ?_; omega))
              refine hK48 _ _ ?_
              try clear hK48 K48
              refine blkQ_n (thenQ_n ?_)
              refine hK34 _ _ ?_
              try clear hK34 K34
              refine AWp.mask [true, true, true, false, true] rfl ?_
              simp only [go_sem]
              refine AWp.rk fun K49 hK49 => ?_
              try simp only [go_sem, icast, natT, fldsD_len, Nat.zero_add, List.take_length, fb2, fb5, h7, nlen1 hap, frow_get (show acc.length - 1 < acc.length by omega)]
              refine hK49 _ _ ?_
              try clear hK49 K49
              refine blkQ_n (thenQ_n ?_)
              refine hK7 _ _ ?_
              try clear hK7 K7
              refine AWp.rk fun K50 hK50 => ?_
              try simp only [go_sem, icast, natT, fldsD_len, Nat.zero_add, List.take_length, fb2, fb5, h7, nlen1 hap, frow_get (show acc.length - 1 < acc.length by omega)]
              (repeat (with_reducible refine And.intro ?_ ?_; omega))
              refine hK50 _ _ ?_
              try clear hK50 K50
              refine thenQ_n ?_
              refine EndS.mkr [false, true, true] [true, false, false, true] rfl ?_ ?_
              · (try simp only [go_sem, icast, natT, fldsD_len, Nat.zero_add, List.take_length, fb2, fb5, h7, nlen1 hap, frow_get (show acc.length - 1 < acc.length by omega)]) <;> try rfl
              refine .e ⟨_, ?_, (m - 1), (ln + 1), bf, cf, (glue acc (q.take e)), (q.drop (e + 2)), rfl, ?_, ?_, ?_, ?_, ?_, ?_, ?_, ?_, ?_⟩
              · first | omega | (simp; omega) | (rw [List.length_drop]; omega)
              · (try simp only [go_sem, icast, natT, fldsD_len, Nat.zero_add, List.take_length, fb2, fb5, h7, nlen1 hap, frow_get (show acc.length - 1 < acc.length by omega)]) <;> first | exact ⟨rfl⟩ | (constructor; simp; done)
              · (try simp only [go_sem, icast, natT, fldsD_len, Nat.zero_add, List.take_length, fb2, fb5, h7, nlen1 hap, frow_get (show acc.length - 1 < acc.length by omega)]) <;> first | exact ⟨rfl⟩ | (constructor; rw [mO_pos hz, mA_pos hz, frow_set, mrow_set])
              · rw [List.length_drop]; omega
              · rw [show m - 1 + 1 = m by omega, ← ms_glue he htn hbl hap]; exact h2
              · rw [glue_len]; omega
              · rw [List.length_drop]; omega
              · exact h5.glue hap (by rw [List.length_drop, htl]; omega)
              · intro hq; omega
              · exact h7
            · skip
              try simp only [decide_eq_true_eq, decide_eq_false_iff_not, Bool.not_eq_true', Bool.not_eq_false', Bool.and_eq_true, Bool.or_eq_true, Bool.and_eq_false_iff, Bool.or_eq_false_iff, Int.not_lt, Int.not_le, beq_iff_eq, beq_eq_false_iff_ne, ne_eq, Bool.not_eq_true, Bool.not_eq_false] at hc4
              have hnb : ¬ (isBl ((q.take e).getD 0 0) = true ∧ 0 < acc.length) := fun hh => by have := isBl_or.1 hh.1; omega
              rcases (show Lib.index (q.take e) [58] < 0 ∨ 0 ≤ Lib.index (q.take e) [58] by omega) with hy | hy
              · skip
                refine AWp.rs fun K51 hK51 => ?_
                try simp only [go_sem, icast, natT, fldsD_len, Nat.zero_add, List.take_length, fb2, fb5, h7]
                refine DW.pcr rfl rfl rfl rfl (Cut_no T hL (q.take e) [58] (by omega) hy) rfl rfl ?_
                try simp only [go_sem, icast, natT, fldsD_len, Nat.zero_add, List.take_length, fb2, fb5, h7]
                refine hK51 _ _ ?_
                try clear hK51 K51
                refine AWp.mask [true, true, true, false, true, true, true, true] rfl ?_
                simp only [go_sem]
                refine AWp.seq fun K52 hK52 => ?_
                refine AWp.rs fun K53 hK53 => ?_
                try simp only [go_sem, icast, natT, fldsD_len, Nat.zero_add, List.take_length, fb2, fb5, h7]
                refine DW.pcgr rfl rfl rfl rfl rfl (fun hg => fname_c T _ (by simp only [List.length_take]; omega)) (fun hg => by (try simp only [go_sem, icast, natT, fldsD_len, Nat.zero_add, List.take_length, fb2, fb5, h7]) <;> first | exact hg | (exfalso; simp at hg; done) | (simpa using hg) | grind) rfl rfl ?_
                try simp only [go_sem, icast, natT, fldsD_len, Nat.zero_add, List.take_length, fb2, fb5, h7]
                (repeat (with_reducible refine And.intro ?_ ?_; decide))
                refine hK53 _ _ ?_
                try clear hK53 K53
                refine AWp.mask [true, true, true, true, true, true, false, false, false, false, false, false, false, true] rfl ?_
                simp only [go_sem]
                refine AWp.cond _ rfl (fun hc5 => ?_) (fun hc5 => ?_)
                · skip
                  try simp only [decide_eq_true_eq, decide_eq_false_iff_not, Bool.not_eq_true', Bool.not_eq_false', Bool.and_eq_true, Bool.or_eq_true, Bool.and_eq_false_iff, Bool.or_eq_false_iff, Int.not_lt, Int.not_le, beq_iff_eq, beq_eq_false_iff_ne, ne_eq, Bool.not_eq_true, Bool.not_eq_false] at hc5
                  refine AWp.rs fun K54 hK54 => ?_
                  try simp only [go_sem, icast, natT, fldsD_len, Nat.zero_add, List.take_length, fb2, fb5, h7]
                  refine hK54 _ _ ?_
                  try clear hK54 K54
                  refine AWp.mask [true, true, true] rfl ?_
                  simp only [go_sem]
                  refine AWp.ret ?_
                  try simp only [go_sem, icast, natT, fldsD_len, Nat.zero_add, List.take_length, fb2, fb5, h7]
                  rw [msgV_of hle0 h2 (ms_form1 he htn hnb hy)]; simp [LeA, LeL, LeD, fldsD]
                · skip
                  exact absurd hc5 (by simp)
              · skip
                obtain ⟨c, hc⟩ := Int.eq_ofNat_of_zero_le hy
                have hcl := lix hc
                simp only [List.length_cons, List.length_nil] at hcl
                refine AWp.rs fun K51 hK51 => ?_
                try simp only [go_sem, icast, natT, fldsD_len, Nat.zero_add, List.take_length, fb2, fb5, h7]
                refine DW.pcr rfl rfl rfl rfl (Cut_yes T hL (q.take e) [58] (by omega) c hc) rfl rfl ?_
                try simp only [go_sem, icast, natT, fldsD_len, Nat.zero_add, List.take_length, fb2, fb5, h7]
                refine hK51 _ _ ?_
                try clear hK51 K51
                refine AWp.mask [true, true, true, false, true, true, true, true] rfl ?_
                simp only [go_sem]
                refine AWp.seq fun K55 hK55 => ?_
                refine AWp.rs fun K56 hK56 => ?_
                try simp only [go_sem, icast, natT, fldsD_len, Nat.zero_add, List.take_length, fb2, fb5, h7]
                refine DW.pcgr rfl rfl rfl rfl rfl (fun hg => fname_c T _ (by simp only [List.length_take]; omega)) (fun hg => by (try simp only [go_sem, icast, natT, fldsD_len, Nat.zero_add, List.take_length, fb2, fb5, h7]) <;> first | exact hg | (exfalso; simp at hg; done) | (simpa using hg) | grind) rfl rfl ?_
                try simp only [go_sem, icast, natT, fldsD_len, Nat.zero_add, List.take_length, fb2, fb5, h7]
                (repeat (with_reducible refine And.intro ?_ ?_; decide))
                refine hK56 _ _ ?_
                try clear hK56 K56
                refine AWp.mask [true, true, true, true, true, true, false, false, false, false, false, false, false, true] rfl ?_
                simp only [go_sem]
                refine AWp.cond _ rfl (fun hc5 => ?_) (fun hc5 => ?_)
                · skip
                  try simp only [decide_eq_true_eq, decide_eq_false_iff_not, Bool.not_eq_true', Bool.not_eq_false', Bool.and_eq_true, Bool.or_eq_true, Bool.and_eq_false_iff, Bool.or_eq_false_iff, Int.not_lt, Int.not_le, beq_iff_eq, beq_eq_false_iff_ne, ne_eq, Bool.not_eq_true, Bool.not_eq_false] at hc5
                  refine AWp.rs fun K57 hK57 => ?_
                  try simp only [go_sem, icast, natT, fldsD_len, Nat.zero_add, List.take_length, fb2, fb5, h7]
                  refine hK57 _ _ ?_
                  try clear hK57 K57
                  refine AWp.mask [true, true, true] rfl ?_
                  simp only [go_sem]
                  refine AWp.ret ?_
                  try simp only [go_sem, icast, natT, fldsD_len, Nat.zero_add, List.take_length, fb2, fb5, h7]
                  rw [msgV_of hle0 h2 (ms_form2 he htn hnb hc (by simpa using hc5))]; simp [LeA, LeL, LeD, fldsD]
                · skip
                  try simp only [decide_eq_true_eq, decide_eq_false_iff_not, Bool.not_eq_true', Bool.not_eq_false', Bool.and_eq_true, Bool.or_eq_true, Bool.and_eq_false_iff, Bool.or_eq_false_iff, Int.not_lt, Int.not_le, beq_iff_eq, beq_eq_false_iff_ne, ne_eq, Bool.not_eq_true, Bool.not_eq_false] at hc5
                  have hnm : nmL ((q.take e).take c) = true := by simpa using hc5
                  refine AWp.skip ?_
                  refine thenQ_n ?_
                  refine hK55 _ _ ?_
                  try clear hK55 K55
                  refine AWp.seq fun K58 hK58 => ?_
                  refine AWp.rs fun K59 hK59 => ?_
                  try simp only [go_sem, icast, natT, fldsD_len, Nat.zero_add, List.take_length, fb2, fb5, h7]
                  refine hK59 _ _ ?_
                  try clear hK59 K59
                  refine AWp.mask [true, true, true, true, true, true, false, false, false, false, true] rfl ?_
                  simp only [go_sem]
                  refine AWp.cond _ rfl (fun hc6 => ?_) (fun hc6 => ?_)
                  · skip
                    try simp only [decide_eq_true_eq, decide_eq_false_iff_not, Bool.not_eq_true', Bool.not_eq_false', Bool.and_eq_true, Bool.or_eq_true, Bool.and_eq_false_iff, Bool.or_eq_false_iff, Int.not_lt, Int.not_le, beq_iff_eq, beq_eq_false_iff_ne, ne_eq, Bool.not_eq_true, Bool.not_eq_false] at hc6
                    refine AWp.rs fun K60 hK60 => ?_
                    try simp only [go_sem, icast, natT, fldsD_len, Nat.zero_add, List.take_length, fb2, fb5, h7]
                    refine hK60 _ _ ?_
                    try clear hK60 K60
                    refine AWp.mask [true, true, true] rfl ?_
                    simp only [go_sem]
                    refine AWp.ret ?_
                    try simp only [go_sem, icast, natT, fldsD_len, Nat.zero_add, List.take_length, fb2, fb5, h7]
                    rw [msgV_of hle0 h2 (ms_full he htn hnb hc hnm (by omega))]; simp [LeA, LeL, LeD, fldsD]
                  · skip
                    try simp only [decide_eq_true_eq, decide_eq_false_iff_not, Bool.not_eq_true', Bool.not_eq_false', Bool.and_eq_true, Bool.or_eq_true, Bool.and_eq_false_iff, Bool.or_eq_false_iff, Int.not_lt, Int.not_le, beq_iff_eq, beq_eq_false_iff_ne, ne_eq, Bool.not_eq_true, Bool.not_eq_false] at hc6
                    refine AWp.skip ?_
                    refine thenQ_n ?_
                    refine hK58 _ _ ?_
                    try clear hK58 K58
                    refine AWp.rk fun K61 hK61 => ?_
                    try simp only [go_sem, icast, natT, fldsD_len, Nat.zero_add, List.take_length, fb2, fb5, h7]
                    refine DW.appM (b0 := bf) (c0 := cf) (rows := dRows (fldsD acc)) rfl rfl (Eq.trans (b := .arr bf 2 acc.length cf) rfl (by rw [mA_pos hz, dRows_len, fldsD_len])) (by rw [mO_pos hz]) (fun h => absurd h (by omega)) rfl (show slI Tryd.prog 62 = some (118, 2, 32) by simp only [go_sem]) rfl rfl (frow_full acc) rfl (by first | decide | (simp; done) | omega) (by first | omega | (simp only [go_sem] <;> omega) | (simp only [go_sem, List.length_take, List.length_map, List.length_append, List.length_cons, List.length_nil] <;> omega) | (simp <;> omega)) (by first | omega | (simp only [go_sem] <;> omega) | (simp only [go_sem, List.length_take, List.length_map, List.length_append, List.length_cons, List.length_nil] <;> omega) | (simp <;> omega)) fun bm2 cm2 hcm2 fbm2 => ?_
                    try simp only [freshL] at fbm2
                    try simp only [go_sem, icast, natT, fldsD_len, Nat.zero_add, List.take_length, fb2, fb5, h7, fbm2]
                    refine hK61 _ _ ?_
                    try clear hK61 K61
                    refine blkQ_n (thenQ_n ?_)
                    refine hK34 _ _ ?_
                    try clear hK34 K34
                    refine AWp.mask [true, true, true, true] rfl ?_
                    simp only [go_sem]
                    refine AWp.rk fun K62 hK62 => ?_
                    try simp only [go_sem, icast, natT, fldsD_len, Nat.zero_add, List.take_length, fb2, fb5, h7, fbm2]
                    refine hK62 _ _ ?_
                    try clear hK62 K62
                    refine blkQ_n (thenQ_n ?_)
                    refine hK7 _ _ ?_
                    try clear hK7 K7
                    refine AWp.rk fun K63 hK63 => ?_
                    try simp only [go_sem, icast, natT, fldsD_len, Nat.zero_add, List.take_length, fb2, fb5, h7, fbm2]
                    (repeat (with_reducible refine And.intro ?_ ?_; omega))
                    refine hK63 _ _ ?_
                    try clear hK63 K63
                    refine thenQ_n ?_
                    refine EndS.mkr [false, true, true] [true, false, false, true] rfl ?_ ?_
                    · (try simp only [go_sem, icast, natT, fldsD_len, Nat.zero_add, List.take_length, fb2, fb5, h7, fbm2]) <;> try rfl
                    refine .e ⟨_, ?_, (m - 1), (ln + 1), bm2, cm2, (acc ++ [((q.take e).take c, (q.take e).drop (c + 1))]), (q.drop (e + 2)), rfl, ?_, ?_, ?_, ?_, ?_, ?_, ?_, ?_, ?_⟩
                    · first | omega | (simp; omega) | (rw [List.length_drop]; omega)
                    · (try simp only [go_sem, icast, natT, fldsD_len, Nat.zero_add, List.take_length, fb2, fb5, h7, fbm2]) <;> first | exact ⟨rfl⟩ | (constructor; simp; done)
                    · (try simp only [go_sem, icast, natT, fldsD_len, Nat.zero_add, List.take_length, fb2, fb5, h7, fbm2]) <;> first | exact ⟨rfl⟩ | (constructor; rw [mO_pos hcm2, mA_pos hcm2]; simp [dRows, fldsD, fldD]; done)
                    · rw [List.length_drop]; omega
                    · rw [show m - 1 + 1 = m by omega, ← ms_add he htn hnb hc hnm (by first | omega | (simp; done))]; exact h2
                    · (simp <;> omega)
                    · rw [List.length_drop]; omega
                    · exact h5.add (by rw [List.length_drop]; omega) (by simp; omega) (by rw [List.length_drop, List.length_drop]; omega)
                    · intro hq; omega
                    · simp_all [freshL]; done
end Go.Proofs.YthhfbolhlbgbgaaDoor

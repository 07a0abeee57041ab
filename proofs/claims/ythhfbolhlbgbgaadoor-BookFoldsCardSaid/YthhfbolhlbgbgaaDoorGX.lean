/- Texts that the laws rest on, packed. -/
import Derived.Test.YthhfbolhlbgbgaaDoorGW
import Derived.Test.YthhfbolhlbgbgaaDoorGB
namespace Go.Proofs.YthhfbolhlbgbgaaDoor
set_option linter.unusedSimpArgs false
set_option linter.unusedVariables false
/-- an entry of a book -/
structure Ent where
  kind : Int
  box : Tx
  uid : Int
  flags : Int
  dest : Tx
  text : Tx
def entA (x : Ent) : List AV := [.d (.int .i64 x.kind), .d (.str x.box), .d (.int .i64 x.uid), .d (.int .i64 x.flags), .d (.str x.dest), .d (.str x.text)]
def entD (x : Ent) : List D := [.int .i64 x.kind, .str x.box, .int .i64 x.uid, .int .i64 x.flags, .str x.dest, .str x.text]
attribute [go_sem] entA
def nmC (c : UInt8) : Bool := decide (33 ≤ (c.toNat : Int)) && decide ((c.toNat : Int) ≤ 126)
/-- may a box be named so? -/
def nameE (s : Tx) : Int := if s.length < 1 ∨ 12 < s.length then 1 else if s.all nmC = true then 0 else 3
@[go_sem] theorem wrap8 (c : UInt8) : IntKind.i64.wrap (c.toNat : Int) = c.toNat := inR_wrap (by have := c.toNat_lt; simp only [inR]; omega)
theorem nameE_1 {s : Tx} (h : s.length < 1 ∨ 12 < s.length) : nameE s = 1 := if_pos h
theorem nameE_3 {s : Tx} (h : ¬ (s.length < 1 ∨ 12 < s.length)) {i : Nat} (hi : i < s.length) (hc : nmC (s.getD i 0) = false) : nameE s = 3 := by
  unfold nameE
  rw [if_neg h, if_neg]
  intro ha
  have := List.all_eq_true.1 ha (s.getD i 0) (by simp [List.getD, hi])
  rw [hc] at this; cases this
theorem all_step {s : Tx} {i : Nat} (hi : i < s.length) (hc : nmC (s.getD i 0) = true) (h : (s.drop i).all nmC = true → s.all nmC = true) : (s.drop (i + 1)).all nmC = true → s.all nmC = true := fun h2 => h (by rw [drop_cons hi, List.all_cons, hc, h2]; rfl)
theorem nameE_end {s : Tx} (h : ¬ (s.length < 1 ∨ 12 < s.length)) {i : Nat} (hi : s.length ≤ i) (ha : (s.drop i).all nmC = true → s.all nmC = true) : nameE s = 0 := by
  unfold nameE
  rw [if_neg h, if_pos (ha (by rw [drop_none hi]; rfl))]
set_option maxRecDepth 4000 in
set_option maxHeartbeats 1000000 in
theorem In_c (T : Tbl) (n lo hi : Int) : PC Tryd.prog T 56 [.d (.int .i64 n), .d (.int .i64 lo), .d (.int .i64 hi)] (.d (.bool (decide (lo ≤ n) && decide (n ≤ hi)))) := by
  refine ⟨Tryd.call56, PCall.enterS Tryd.func56 rfl Tryd.ntmps56 rfl fun hb => ?_⟩
  simp only [go_sem, Tryd.results56]
  refine AWp.rs fun K1 hK1 => ?_
  try simp only [go_sem]
  refine hK1 _ _ ?_
  try clear hK1 K1
  refine AWp.rs fun K2 hK2 => ?_
  try simp only [go_sem]
  refine hK2 _ _ ?_
  try clear hK2 K2
  refine AWp.mask [false, false, false, true] rfl ?_
  simp only [go_sem]
  refine AWp.ret ?_
  try simp only [go_sem]
  try simp [LeA, LeD]
set_option maxRecDepth 4000 in
set_option maxHeartbeats 1000000 in
theorem Name_c (T : Tbl) (s : Tx) (hb0 : s.length ≤ 9223372036854775807) : PC Tryd.prog T 99 [.d (.str s)] (.d (.int .i64 (nameE s))) := by
  refine ⟨Tryd.call99, PCall.enterS Tryd.func99 rfl Tryd.ntmps99 rfl fun hb => ?_⟩
  simp only [go_sem, Tryd.results99]
  refine AWp.rs fun K1 hK1 => ?_
  try simp only [go_sem]
  refine hK1 _ _ ?_
  try clear hK1 K1
  refine AWp.seq fun K2 hK2 => ?_
  refine AWp.rs fun K3 hK3 => ?_
  try simp only [go_sem]
  (repeat (with_reducible refine And.intro ?_ ?_; (exact nfB)))
  refine hK3 _ _ ?_
  try clear hK3 K3
  refine AWp.mask [true, false, false, false, false, false, false, false, false, true] rfl ?_
  simp only [go_sem]
  refine AWp.cond _ rfl (fun hc0 => ?_) (fun hc0 => ?_)
  · skip
    try simp only [decide_eq_true_eq, Bool.or_eq_true] at hc0
    refine AWp.rs fun K4 hK4 => ?_
    try simp only [go_sem]
    refine hK4 _ _ ?_
    try clear hK4 K4
    refine AWp.ret ?_
    try simp only [go_sem]
    rw [nameE_1 (by omega)]; try simp [LeA, LeD]
  · skip
    try simp only [decide_eq_false_iff_not, Bool.or_eq_false_iff, Int.not_lt] at hc0
    refine AWp.skip ?_
    refine thenQ_n ?_
    refine hK2 _ _ ?_
    try clear hK2 K2
    refine AWp.seq fun K5 hK5 => ?_
    refine AWp.rs fun K6 hK6 => ?_
    try simp only [go_sem]
    refine hK6 _ _ ?_
    try clear hK6 K6
    refine AWp.block ?_
    refine AWp.mask [true, false, false, true, true] rfl ?_
    simp only [go_sem]
    refine AWp.loopS [true, true] [false, false, true] (fun n lc hc => ∃ (i : Nat), n = s.length - i ∧ EqS lc [(14, .d (.int .i64 i))] ∧ EqS hc (⟨[], []⟩) ∧ (i ≤ s.length) ∧ ((s.drop i).all nmC = true → s.all nmC = true)) rfl ?_ ?_
    · refine ⟨_, 0, rfl, ?_, ?_, ?_, ?_⟩
      · (try simp only [go_sem]) <;> first | exact ⟨rfl⟩ | (constructor; simp; done)
      · (try simp only [go_sem, icast]) <;> first | exact ⟨rfl⟩ | (constructor; simp; done)
      all_goals (first | omega | (simp; done))
    · rintro _ _ _ ⟨i, rfl, ⟨rfl⟩, ⟨rfl⟩, h1, h2⟩
      simp only [go_sem]
      refine AWp.rs fun K7 hK7 => ?_
      try simp only [go_sem]
      refine hK7 _ _ ?_
      try clear hK7 K7
      refine AWp.seq fun K8 hK8 => ?_
      refine AWp.cond _ rfl (fun hc1 => ?_) (fun hc1 => ?_)
      · skip
        try simp only [decide_eq_true_eq] at hc1
        have hlt : i < s.length := by omega
        refine AWp.skip ?_
        refine thenQ_n ?_
        refine hK8 _ _ ?_
        try clear hK8 K8
        refine AWp.seq fun K9 hK9 => ?_
        refine AWp.block ?_
        refine AWp.rs fun K10 hK10 => ?_
        try simp only [go_sem]
        refine hK10 _ _ ?_
        try clear hK10 K10
        refine AWp.rs fun K11 hK11 => ?_
        try simp only [go_sem]
        (repeat (with_reducible refine And.intro ?_ ?_; (first | omega | (exact nfB) | (intro hg; refine ⟨hg, ?_⟩; omega))))
        refine hK11 _ _ ?_
        try clear hK11 K11
        refine AWp.mask [true, false, true, true, false, false, false, false, false, false, false, false, false, false, false, true] rfl ?_
        simp only [go_sem]
        refine AWp.cond _ rfl (fun hc2 => ?_) (fun hc2 => ?_)
        · skip
          try simp only [decide_eq_true_eq, Bool.or_eq_true] at hc2
          have hcc : nmC (s.getD i 0) = false := by
            unfold nmC
            simp only [Bool.and_eq_false_iff, decide_eq_false_iff_not]
            omega
          refine AWp.rs fun K12 hK12 => ?_
          try simp only [go_sem]
          refine hK12 _ _ ?_
          try clear hK12 K12
          refine AWp.mask [false, true] rfl ?_
          simp only [go_sem]
          refine AWp.ret ?_
          try simp only [go_sem]
          rw [nameE_3 (by omega) hlt hcc]; try simp [LeA, LeD]
        · skip
          try simp only [decide_eq_false_iff_not, Bool.or_eq_false_iff, Int.not_lt] at hc2
          have hcc : nmC (s.getD i 0) = true := by
            unfold nmC
            simp only [Bool.and_eq_true, decide_eq_true_eq]
            omega
          refine AWp.skip ?_
          refine blkQ_n (thenQ_n ?_)
          refine hK9 _ _ ?_
          try clear hK9 K9
          refine AWp.rk fun K13 hK13 => ?_
          try simp only [go_sem, icast]
          (repeat (with_reducible refine And.intro ?_ ?_; omega))
          refine hK13 _ _ ?_
          try clear hK13 K13
          refine thenQ_n ?_
          refine EndS.mkr [true, true] [false, false, true] rfl ?_ ?_
          · (try simp only [go_sem]) <;> try rfl
          refine .e ⟨_, ?_, i + 1, rfl, ?_, ?_, ?_, ?_⟩
          · first | omega | (simp; omega) | (grind)
          · (try simp only [go_sem]) <;> first | exact ⟨rfl⟩ | (constructor; simp; done)
          · (try simp only [go_sem, icast]) <;> first | exact ⟨rfl⟩ | (constructor; simp; done)
          · omega
          · exact all_step (by omega) hcc h2
      · skip
        try simp only [decide_eq_false_iff_not, Int.not_lt] at hc1
        refine AWp.exit ?_
        refine thenQ_e (thenQ_e (blkQ_e (thenQ_n ?_)))
        refine hK5 _ _ ?_
        try clear hK5 K5
        refine AWp.mask [] rfl ?_
        simp only [go_sem]
        refine AWp.rs fun K14 hK14 => ?_
        try simp only [go_sem]
        refine hK14 _ _ ?_
        try clear hK14 K14
        refine AWp.ret ?_
        try simp only [go_sem]
        rw [nameE_end (by omega) (by omega) h2]; try simp [LeA, LeD]
set_option maxRecDepth 4000 in
set_option maxHeartbeats 1000000 in
theorem BoxName_c (T : Tbl) (s : Tx) (hb0 : s.length ≤ 9223372036854775807) : PC Tryd.prog T 54 [.d (.str s)] (.d (.int .i64 (nameE s))) := by
  refine ⟨Tryd.call54, PCall.enterS Tryd.func54 rfl Tryd.ntmps54 rfl fun hb => ?_⟩
  simp only [go_sem, Tryd.results54]
  refine AWp.rs fun K1 hK1 => ?_
  try simp only [go_sem]
  refine hK1 _ _ ?_
  try clear hK1 K1
  refine AWp.seq fun K2 hK2 => ?_
  refine AWp.rs fun K3 hK3 => ?_
  try simp only [go_sem]
  refine DW.pcr rfl rfl rfl rfl (In_c T _ _ _) rfl rfl ?_
  try simp only [go_sem]
  refine hK3 _ _ ?_
  try clear hK3 K3
  refine AWp.mask [true, false, false, false, false, true] rfl ?_
  simp only [go_sem]
  refine AWp.cond _ rfl (fun hc0 => ?_) (fun hc0 => ?_)
  · skip
    try simp only [decide_eq_false_iff_not, Bool.not_eq_true', Bool.and_eq_false_iff, Int.not_le] at hc0
    refine AWp.rs fun K4 hK4 => ?_
    try simp only [go_sem]
    refine hK4 _ _ ?_
    try clear hK4 K4
    refine AWp.ret ?_
    try simp only [go_sem]
    rw [nameE_1 (by omega)]; try simp [LeA, LeD]
  · skip
    try simp only [decide_eq_true_eq, Bool.not_eq_false', Bool.and_eq_true] at hc0
    refine AWp.skip ?_
    refine thenQ_n ?_
    refine hK2 _ _ ?_
    try clear hK2 K2
    refine AWp.seq fun K5 hK5 => ?_
    refine AWp.rs fun K6 hK6 => ?_
    try simp only [go_sem]
    refine hK6 _ _ ?_
    try clear hK6 K6
    refine AWp.block ?_
    refine AWp.mask [true, true] rfl ?_
    simp only [go_sem]
    refine AWp.loopS [true] [false, true] (fun n lc hc => ∃ (i : Nat), n = s.length - i ∧ EqS lc [(3, .d (.int .i64 i))] ∧ EqS hc (⟨[], []⟩) ∧ (i ≤ s.length) ∧ ((s.drop i).all nmC = true → s.all nmC = true)) rfl ?_ ?_
    · refine ⟨_, 0, rfl, ?_, ?_, ?_, ?_⟩
      · (try simp only [go_sem]) <;> first | exact ⟨rfl⟩ | (constructor; simp; done)
      · (try simp only [go_sem, icast]) <;> first | exact ⟨rfl⟩ | (constructor; simp; done)
      all_goals (first | omega | (simp; done))
    · rintro _ _ _ ⟨i, rfl, ⟨rfl⟩, ⟨rfl⟩, h1, h2⟩
      simp only [go_sem]
      refine AWp.seq fun K7 hK7 => ?_
      refine AWp.rs fun K8 hK8 => ?_
      try simp only [go_sem]
      refine hK8 _ _ ?_
      try clear hK8 K8
      refine AWp.cond _ rfl (fun hc1 => ?_) (fun hc1 => ?_)
      · skip
        try simp only [decide_eq_true_eq] at hc1
        have hlt : i < s.length := by omega
        refine AWp.skip ?_
        refine thenQ_n ?_
        refine hK7 _ _ ?_
        try clear hK7 K7
        refine AWp.mask [true, true] rfl ?_
        simp only [go_sem]
        refine AWp.seq fun K9 hK9 => ?_
        refine AWp.block ?_
        refine AWp.rs fun K10 hK10 => ?_
        try simp only [go_sem]
        (repeat (with_reducible refine And.intro ?_ ?_; omega))
        refine DW.pcr rfl rfl rfl rfl (In_c T _ _ _) rfl rfl ?_
        try simp only [go_sem]
        refine hK10 _ _ ?_
        try clear hK10 K10
        refine AWp.mask [true, true, false, false, false, false, false, true] rfl ?_
        simp only [go_sem]
        refine AWp.cond _ rfl (fun hc2 => ?_) (fun hc2 => ?_)
        · skip
          try simp only [decide_eq_false_iff_not, Bool.not_eq_true', Bool.and_eq_false_iff, Int.not_le] at hc2
          have hcc : nmC (s.getD i 0) = false := by
            unfold nmC
            simp only [Bool.and_eq_false_iff, decide_eq_false_iff_not]
            omega
          refine AWp.rs fun K11 hK11 => ?_
          try simp only [go_sem]
          refine hK11 _ _ ?_
          try clear hK11 K11
          refine AWp.ret ?_
          try simp only [go_sem]
          rw [nameE_3 (by omega) hlt hcc]; try simp [LeA, LeD]
        · skip
          try simp only [decide_eq_true_eq, Bool.not_eq_false', Bool.and_eq_true] at hc2
          have hcc : nmC (s.getD i 0) = true := by
            unfold nmC
            simp only [Bool.and_eq_true, decide_eq_true_eq]
            omega
          refine AWp.skip ?_
          refine blkQ_n (thenQ_n ?_)
          refine hK9 _ _ ?_
          try clear hK9 K9
          refine AWp.rk fun K12 hK12 => ?_
          try simp only [go_sem, icast]
          (repeat (with_reducible refine And.intro ?_ ?_; omega))
          refine hK12 _ _ ?_
          try clear hK12 K12
          refine thenQ_n ?_
          refine EndS.mkr [true] [false, true] rfl ?_ ?_
          · (try simp only [go_sem]) <;> try rfl
          refine .e ⟨_, ?_, i + 1, rfl, ?_, ?_, ?_, ?_⟩
          · first | omega | (simp; omega) | (grind)
          · (try simp only [go_sem]) <;> first | exact ⟨rfl⟩ | (constructor; simp; done)
          · (try simp only [go_sem, icast]) <;> first | exact ⟨rfl⟩ | (constructor; simp; done)
          · omega
          · exact all_step (by omega) hcc h2
      · skip
        try simp only [decide_eq_false_iff_not, Int.not_lt] at hc1
        refine AWp.exit ?_
        refine thenQ_e (thenQ_e (blkQ_e (thenQ_n ?_)))
        refine hK5 _ _ ?_
        try clear hK5 K5
        refine AWp.mask [] rfl ?_
        simp only [go_sem]
        refine AWp.rs fun K13 hK13 => ?_
        try simp only [go_sem]
        refine hK13 _ _ ?_
        try clear hK13 K13
        refine AWp.ret ?_
        try simp only [go_sem]
        rw [nameE_end (by omega) (by omega) h2]; try simp [LeA, LeD]
end Go.Proofs.YthhfbolhlbgbgaaDoor

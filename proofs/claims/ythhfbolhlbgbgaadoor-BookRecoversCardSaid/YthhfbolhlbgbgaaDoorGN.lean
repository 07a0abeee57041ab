/- Texts that the laws rest on, packed. -/
import Derived.Test.YthhfbolhlbgbgaaDoorGK
namespace Go.Proofs.YthhfbolhlbgbgaaDoor
set_option linter.unusedSimpArgs false
set_option linter.unusedVariables false
/-- a number's lowest byte -/
def ub (n : Int) : UInt8 := UInt8.ofNat (n % 256).toNat
theorem ub_nat (n : Int) : ((ub n).toNat : Int) = n % 256 := by
  unfold ub
  rw [UInt8.toNat_ofNat']
  have h1 := Int.emod_nonneg n (show (256 : Int) ≠ 0 by decide)
  have h2 := Int.emod_lt_of_pos n (show (0 : Int) < 256 by decide)
  omega
@[go_sem] theorem wrapU (n : Int) : IntKind.u8.wrap n = ((ub n).toNat : Int) := by
  rw [ub_nat]
  rfl
theorem byteRows_app (a c : Tx) : byteRows a ++ byteRows c = byteRows (a ++ c) := by simp [byteRows]
@[go_sem] theorem byteRows_len (a : Tx) : (byteRows a).length = a.length := by simp [byteRows]
theorem byteRows_one (c : UInt8) : [[D.int .u8 (c.toNat : Int)]] = byteRows [c] := rfl
theorem byteRows_getD (a : Tx) (i : Nat) (d : List D) (h : i < a.length) : (byteRows a).getD i d = [.int .u8 ((a.getD i 0).toNat : Int)] := by
  simp [byteRows, List.getD, h]
/-- a number as so many bytes, the highest one first -/
def wideR (n : Int) : Nat → Tx
  | 0 => []
  | k + 1 => ub (n.fdiv (2 ^ (min (8 * (k : Int)).toNat IntKind.i64.bits))) :: wideR n k
theorem wideR_len (n : Int) : ∀ k, (wideR n k).length = k
  | 0 => rfl
  | k + 1 => by simp [wideR, wideR_len n k]
theorem isub1 (j : Nat) : (((j + 1 : Nat) : Int)) - 1 = j := by omega
set_option maxRecDepth 4000 in
set_option maxHeartbeats 1000000 in
theorem wide_c (T : Tbl) (u : Nat) (Y : Tx) (c : Int) (m : Nat) (F : List (Nat × Ob)) (L : List Nat) (hm : m ≤ 8) (hu : freshT u L) (hY : Y.length + m ≤ 1000000) : AC Tryd.prog T 60 [.own u 1 (byteRows Y), .d (.int .i64 c), .d (.int .i64 m)] (⟨F, u :: L⟩) (fun x h => ∃ v, freshT v L ∧ x = .ret (.own v 1 (byteRows (Y ++ wideR c m))) ∧ h = ⟨F, v :: L⟩) := by
  refine ⟨Tryd.call60, ACalls.enterS Tryd.func60 rfl Tryd.ntmps60 rfl fun hb => ?_⟩
  simp only [go_sem, Tryd.results60]
  refine AWp.rs fun K1 hK1 => ?_
  try simp only [go_sem, icast]
  refine hK1 _ _ ?_
  try clear hK1 K1
  refine AWp.seq fun K2 hK2 => ?_
  refine AWp.rs fun K3 hK3 => ?_
  try simp only [go_sem, icast]
  (repeat (with_reducible refine And.intro ?_ ?_; omega))
  refine hK3 _ _ ?_
  try clear hK3 K3
  refine AWp.mask [true, true, false, false, true] rfl ?_
  simp only [go_sem]
  refine AWp.block ?_
  refine AWp.loopS [false, true] [true, false, true] (fun n lc hc => ∃ (k v : Nat) (Z : Tx), n = 2 * k ∧ EqS lc [(0, .own v 1 (byteRows Z)), (7, .d (.int .i64 ((k : Int) - 1)))] ∧ EqS hc (⟨F, v :: L⟩) ∧ (k ≤ m) ∧ (Z ++ wideR c k = Y ++ wideR c m) ∧ (Z.length + k = Y.length + m) ∧ (freshT v L)) rfl ?_ ?_
  · refine ⟨_, m, u, Y, rfl, ?_, ?_, ?_, ?_, ?_, ?_⟩
    · (try simp only [go_sem, icast]) <;> first | exact ⟨rfl⟩ | (constructor; simp; done)
    · (try simp only [go_sem, icast]) <;> first | exact ⟨rfl⟩ | (constructor; simp; done)
    all_goals (first | omega | rfl | (simp only [go_sem]; done) | assumption)
  · rintro _ _ _ ⟨k, v, Z, rfl, ⟨rfl⟩, ⟨rfl⟩, h1, h2, h3, h4⟩
    simp only [go_sem]
    refine AWp.seq fun K4 hK4 => ?_
    refine AWp.rs fun K5 hK5 => ?_
    try simp only [go_sem, icast]
    refine hK5 _ _ ?_
    try clear hK5 K5
    refine AWp.cond _ rfl (fun hc0 => ?_) (fun hc0 => ?_)
    · skip
      try simp only [decide_eq_true_eq, decide_eq_false_iff_not, Bool.not_eq_true', Bool.not_eq_false', Bool.and_eq_true, Bool.or_eq_true, Bool.and_eq_false_iff, Bool.or_eq_false_iff, Int.not_lt, Int.not_le, beq_iff_eq, beq_eq_false_iff_ne, ne_eq, Bool.not_eq_true, Bool.not_eq_false] at hc0
      obtain ⟨j, rfl⟩ : ∃ j, k = j + 1 := ⟨k - 1, by omega⟩
      have hj : (j : Int) < 8 := by omega
      refine AWp.skip ?_
      refine thenQ_n ?_
      refine hK4 _ _ ?_
      try clear hK4 K4
      refine AWp.seq fun K6 hK6 => ?_
      refine AWp.block ?_
      refine AWp.rk fun K7 hK7 => ?_
      try simp only [go_sem, icast, isub1]
      (repeat (with_reducible refine And.intro ?_ ?_; omega))
      refine DW.app rfl rfl rfl rfl (show slI Tryd.prog 33 = some (5, 1, 1) by simp only [go_sem]) rfl rfl (by simp only [go_sem, icast, isub1]) (by first | exact .inl rfl | exact .inr rfl) (by (try simp only [go_sem]); omega) (by (try simp only [go_sem]); omega) fun t1 ft1 => ?_
      try simp only [freshT] at ft1
      try simp only [go_sem, icast, isub1, ft1]
      refine hK7 _ _ ?_
      try clear hK7 K7
      refine blkQ_n (thenQ_n ?_)
      refine hK6 _ _ ?_
      try clear hK6 K6
      refine AWp.mask [true, true, true] rfl ?_
      simp only [go_sem]
      refine AWp.rk fun K8 hK8 => ?_
      try simp only [go_sem, icast, isub1, ft1]
      (repeat (with_reducible refine And.intro ?_ ?_; omega))
      refine hK8 _ _ ?_
      try clear hK8 K8
      refine thenQ_n ?_
      refine EndS.mk [false, true] [true, false, true] [] [] [] [t1] rfl ?_ ?_
      · (try simp only [go_sem, icast, isub1, ft1]) <;> try rfl
      refine .e ⟨_, ?_, j, t1, (Z ++ [ub (c.fdiv (2 ^ (min (8 * (j : Int)).toNat IntKind.i64.bits)))]), rfl, ?_, ?_, ?_, ?_, ?_, ?_⟩
      · first | omega | (simp; omega) | (grind)
      · (try simp only [go_sem, icast, isub1, ft1]) <;> first | exact ⟨rfl⟩ | (constructor; simp only [← byteRows_app, byteRows_one]; done)
      · (try simp only [go_sem, icast, isub1, ft1]) <;> first | exact ⟨rfl⟩ | (constructor; simp; done)
      · omega
      · rw [← h2]; simp [wideR]
      · simp; omega
      · first | assumption | (simp only [go_sem, ft1] at *; done) | (simp only [go_sem, ft1] at *; assumption)
    · skip
      try simp only [decide_eq_true_eq, decide_eq_false_iff_not, Bool.not_eq_true', Bool.not_eq_false', Bool.and_eq_true, Bool.or_eq_true, Bool.and_eq_false_iff, Bool.or_eq_false_iff, Int.not_lt, Int.not_le, beq_iff_eq, beq_eq_false_iff_ne, ne_eq, Bool.not_eq_true, Bool.not_eq_false] at hc0
      refine AWp.exit ?_
      refine thenQ_e (thenQ_e (blkQ_e (thenQ_n ?_)))
      refine hK2 _ _ ?_
      try clear hK2 K2
      refine AWp.mask [true] rfl ?_
      simp only [go_sem]
      refine AWp.rs fun K9 hK9 => ?_
      try simp only [go_sem, icast]
      refine hK9 _ _ ?_
      try clear hK9 K9
      refine AWp.ret ?_
      apply endW_r [] [] [] [] (by (try simp only [go_sem, icast]); rfl)
      · refine ⟨v, h4, rfl, rfl⟩
      · have h0 : k = 0 := by omega
        subst h0
        have h2 : Z = Y ++ wideR c m := by simpa [wideR] using h2
        simp [LeA, h2]
theorem take_get {a : Tx} {k : Nat} (h : k < a.length) : a.take (k + 1) = a.take k ++ [a.getD k 0] := by
  rw [List.take_add_one]; simp [List.getD, List.getElem?_eq_getElem h]
theorem fdiv_nat (n : Nat) (c : Nat) : (n : Int).fdiv (c : Int) = ((n / c : Nat) : Int) := by
  rw [Int.fdiv_eq_ediv_of_nonneg _ (by omega)]; exact (Int.natCast_ediv n c).symm
theorem ub_mod (n : Int) : ub (n % 256) = ub n := by
  apply UInt8.toNat_inj.1
  have h1 := ub_nat (n % 256)
  have h2 := ub_nat n
  rw [Int.emod_emod_of_dvd n (Int.dvd_refl 256)] at h1
  omega
theorem wide2 (n : Nat) : wideR n 2 = [ub ((n : Int).tdiv 256), ub ((n : Int).tmod 256)] := by
  have e1 : (n : Int).fdiv (2 ^ (min (8 * ((1 : Nat) : Int)).toNat IntKind.i64.bits)) = (n : Int).tdiv 256 := by
    rw [show (2 : Int) ^ (min (8 * ((1 : Nat) : Int)).toNat IntKind.i64.bits) = ((256 : Nat) : Int) from rfl, fdiv_nat, Int.tdiv_eq_ediv_of_nonneg (by omega)]; rfl
  have e2 : (n : Int).fdiv (2 ^ (min (8 * ((0 : Nat) : Int)).toNat IntKind.i64.bits)) = n := by
    rw [show (2 : Int) ^ (min (8 * ((0 : Nat) : Int)).toNat IntKind.i64.bits) = ((1 : Nat) : Int) from rfl, fdiv_nat]; simp
  have e3 : (n : Int).tmod 256 = (n : Int) % 256 := Int.tmod_eq_emod_of_nonneg (by omega)
  simp only [wideR, e1, e2, e3, ub_mod]
theorem wide3 (n : Int) (h : 0 ≤ n) : wideR n 3 = [ub (n.tdiv 65536), ub ((n.tdiv 256).tmod 256), ub (n.tmod 256)] := by
  obtain ⟨n, rfl⟩ := Int.eq_ofNat_of_zero_le h
  have e0 : (n : Int).fdiv (2 ^ (min (8 * ((2 : Nat) : Int)).toNat IntKind.i64.bits)) = (n : Int).tdiv 65536 := by
    rw [show (2 : Int) ^ (min (8 * ((2 : Nat) : Int)).toNat IntKind.i64.bits) = ((65536 : Nat) : Int) from rfl, fdiv_nat, Int.tdiv_eq_ediv_of_nonneg (by omega)]; rfl
  have e1 : (n : Int).fdiv (2 ^ (min (8 * ((1 : Nat) : Int)).toNat IntKind.i64.bits)) = (n : Int).tdiv 256 := by
    rw [show (2 : Int) ^ (min (8 * ((1 : Nat) : Int)).toNat IntKind.i64.bits) = ((256 : Nat) : Int) from rfl, fdiv_nat, Int.tdiv_eq_ediv_of_nonneg (by omega)]; rfl
  have e2 : (n : Int).fdiv (2 ^ (min (8 * ((0 : Nat) : Int)).toNat IntKind.i64.bits)) = n := by
    rw [show (2 : Int) ^ (min (8 * ((0 : Nat) : Int)).toNat IntKind.i64.bits) = ((1 : Nat) : Int) from rfl, fdiv_nat]; simp
  have e3 : (n : Int).tmod 256 = (n : Int) % 256 := Int.tmod_eq_emod_of_nonneg (by omega)
  have e4 : ((n : Int).tdiv 256).tmod 256 = (n : Int).tdiv 256 % 256 := Int.tmod_eq_emod_of_nonneg (by rw [Int.tdiv_eq_ediv_of_nonneg (by omega)]; omega)
  show wideR (n : Int) 3 = _
  simp only [wideR, e0, e1, e2]
  rw [e3, e4, ub_mod, ub_mod]
theorem tdiv256 (n : Nat) : (n : Int).tdiv 256 = ((n / 256 : Nat) : Int) := by rw [Int.tdiv_eq_ediv_of_nonneg (by omega)]; rfl
theorem tmod256 (n : Nat) : (n : Int).tmod 256 = ((n % 256 : Nat) : Int) := by rw [Int.tmod_eq_emod_of_nonneg (by omega)]; rfl
theorem wide2n (n : Nat) : wideR n 2 = [ub ((n / 256 : Nat) : Int), ub ((n % 256 : Nat) : Int)] := by rw [wide2, tdiv256, tmod256]
def txS (t : Tx) : Tx := wideR t.length 2 ++ t
theorem txS_len (t : Tx) : (txS t).length = t.length + 2 := by simp [txS, wideR_len]; omega
set_option maxRecDepth 4000 in
set_option maxHeartbeats 1000000 in
theorem joined_c (T : Tbl) (x y : Tx) (hl : x.length + y.length ≤ 1000000) : PC Tryd.prog T 63 [.d (.slc 1 (byteRows (x))), .d (.slc 1 (byteRows (y)))] (.d (.slc 1 (byteRows (x ++ y)))) := by
  refine ⟨Tryd.call63, PCall.enterS Tryd.func63 rfl Tryd.ntmps63 rfl fun hb => ?_⟩
  simp only [go_sem, Tryd.results63]
  refine AWp.rs fun K1 hK1 => ?_
  try simp only [go_sem, icast]
  refine hK1 _ _ ?_
  try clear hK1 K1
  refine AWp.rs fun K2 hK2 => ?_
  try simp only [go_sem, icast]
  refine hK2 _ _ ?_
  try clear hK2 K2
  refine AWp.ownNilS 5 1 rfl rfl (by decide) fun t0 ft0 => ?_
  try simp only [freshT] at ft0
  simp only [go_sem, icast, ft0]
  refine AWp.seq fun K3 hK3 => ?_
  refine AWp.rs fun K4 hK4 => ?_
  try simp only [go_sem, icast, ft0]
  refine hK4 _ _ ?_
  try clear hK4 K4
  refine AWp.block ?_
  refine AWp.mask [true, true, false, true, true] rfl ?_
  simp only [go_sem]
  refine AWp.loopS [true, true] [false, false, true, true] (fun n lc hc => ∃ (k v : Nat), n = x.length - k ∧ EqS lc [(5, .own v 1 (byteRows (x.take k))), (6, .d (.int .i64 k))] ∧ EqS hc (⟨[], [v]⟩) ∧ (k ≤ x.length)) rfl ?_ ?_
  · refine ⟨_, 0, t0, rfl, ?_, ?_, ?_⟩
    · (try simp only [go_sem, icast, ft0]) <;> first | exact ⟨rfl⟩ | (constructor; simp [byteRows]; done)
    · (try simp only [go_sem, icast, ft0]) <;> first | exact ⟨rfl⟩ | (constructor; simp; done)
    all_goals (first | omega | rfl | (simp; done) | (simp; omega) | assumption)
  · rintro _ _ _ ⟨k, v, rfl, ⟨rfl⟩, ⟨rfl⟩, h1⟩
    simp only [go_sem]
    refine AWp.seq fun K5 hK5 => ?_
    refine AWp.rs fun K6 hK6 => ?_
    try simp only [go_sem, icast, ft0]
    refine hK6 _ _ ?_
    try clear hK6 K6
    refine AWp.cond _ rfl (fun hc0 => ?_) (fun hc0 => ?_)
    · skip
      try simp only [decide_eq_true_eq, decide_eq_false_iff_not, Bool.not_eq_true', Bool.not_eq_false', Bool.and_eq_true, Bool.or_eq_true, Bool.and_eq_false_iff, Bool.or_eq_false_iff, Int.not_lt, Int.not_le, beq_iff_eq, beq_eq_false_iff_ne, ne_eq, Bool.not_eq_true, Bool.not_eq_false] at hc0
      have hlt : k < x.length := by omega
      have htk : (x.take k).length ≤ 1000000 := by simp; omega
      refine AWp.skip ?_
      refine thenQ_n ?_
      refine hK5 _ _ ?_
      try clear hK5 K5
      refine AWp.mask [true, true, true, true] rfl ?_
      simp only [go_sem]
      refine AWp.seq fun K7 hK7 => ?_
      refine AWp.block ?_
      refine AWp.rk fun K8 hK8 => ?_
      try simp only [go_sem, icast, ft0, byteRows_getD x k _ hlt]
      (repeat (with_reducible refine And.intro ?_ ?_; omega))
      refine DW.app rfl rfl rfl rfl (show slI Tryd.prog 33 = some (5, 1, 1) by simp only [go_sem]) rfl rfl (by simp only [go_sem, icast, ft0, byteRows_getD x k _ hlt]) (by first | exact .inl rfl | exact .inr rfl) (by (try simp only [go_sem, List.length_append, List.length_cons, List.length_nil]); omega) (by (try simp only [go_sem, List.length_append, List.length_cons, List.length_nil]); omega) fun t1 ft1 => ?_
      try simp only [freshT] at ft1
      try simp only [go_sem, icast, ft0, byteRows_getD x k _ hlt, ft1]
      refine hK8 _ _ ?_
      try clear hK8 K8
      refine blkQ_n (thenQ_n ?_)
      refine hK7 _ _ ?_
      try clear hK7 K7
      refine AWp.mask [true, true, true, true] rfl ?_
      simp only [go_sem]
      refine AWp.rk fun K9 hK9 => ?_
      try simp only [go_sem, icast, ft0, byteRows_getD x k _ hlt, ft1]
      (repeat (with_reducible refine And.intro ?_ ?_; omega))
      refine hK9 _ _ ?_
      try clear hK9 K9
      refine thenQ_n ?_
      refine EndS.mk [true, true] [false, false, true, true] [] [] [] [t1] rfl ?_ ?_
      · (try simp only [go_sem, icast, ft0, byteRows_getD x k _ hlt, ft1]) <;> try rfl
      refine .e ⟨_, ?_, k + 1, t1, rfl, ?_, ?_, ?_⟩
      · first | omega | (simp; omega) | (grind)
      · (try simp only [go_sem, icast, ft0, byteRows_getD x k _ hlt, ft1]) <;> first | exact ⟨rfl⟩ | (constructor; rw [take_get hlt, ← byteRows_app]; rfl)
      · (try simp only [go_sem, icast, ft0, byteRows_getD x k _ hlt, ft1]) <;> first | exact ⟨rfl⟩ | (constructor; simp; done)
      all_goals (first | omega | assumption | grind)
    · skip
      try simp only [decide_eq_true_eq, decide_eq_false_iff_not, Bool.not_eq_true', Bool.not_eq_false', Bool.and_eq_true, Bool.or_eq_true, Bool.and_eq_false_iff, Bool.or_eq_false_iff, Int.not_lt, Int.not_le, beq_iff_eq, beq_eq_false_iff_ne, ne_eq, Bool.not_eq_true, Bool.not_eq_false] at hc0
      have hk : k = x.length := by omega
      subst hk
      rw [List.take_length]
      refine AWp.exit ?_
      refine thenQ_e (thenQ_e (blkQ_e (thenQ_n ?_)))
      refine hK3 _ _ ?_
      try clear hK3 K3
      refine AWp.mask [false, true, true] rfl ?_
      simp only [go_sem]
      refine AWp.seq fun K10 hK10 => ?_
      refine AWp.rs fun K11 hK11 => ?_
      try simp only [go_sem, icast, ft0]
      refine hK11 _ _ ?_
      try clear hK11 K11
      refine AWp.block ?_
      refine AWp.loopS [true] [false, true, true] (fun n lc hc => ∃ (k v : Nat), n = y.length - k ∧ EqS lc [(5, .own v 1 (byteRows (x ++ y.take k))), (7, .d (.int .i64 k))] ∧ EqS hc (⟨[], [v]⟩) ∧ (k ≤ y.length)) rfl ?_ ?_
      · refine ⟨_, 0, v, rfl, ?_, ?_, ?_⟩
        · (try simp only [go_sem, icast, ft0]) <;> first | exact ⟨rfl⟩ | (constructor; simp; done)
        · (try simp only [go_sem, icast, ft0]) <;> first | exact ⟨rfl⟩ | (constructor; simp; done)
        all_goals (first | omega | rfl | (simp; done) | (simp; omega) | assumption)
      · rintro _ _ _ ⟨k, v, rfl, ⟨rfl⟩, ⟨rfl⟩, h1⟩
        simp only [go_sem]
        refine AWp.seq fun K12 hK12 => ?_
        refine AWp.rs fun K13 hK13 => ?_
        try simp only [go_sem, icast, ft0]
        refine hK13 _ _ ?_
        try clear hK13 K13
        refine AWp.cond _ rfl (fun hc1 => ?_) (fun hc1 => ?_)
        · skip
          try simp only [decide_eq_true_eq, decide_eq_false_iff_not, Bool.not_eq_true', Bool.not_eq_false', Bool.and_eq_true, Bool.or_eq_true, Bool.and_eq_false_iff, Bool.or_eq_false_iff, Int.not_lt, Int.not_le, beq_iff_eq, beq_eq_false_iff_ne, ne_eq, Bool.not_eq_true, Bool.not_eq_false] at hc1
          have hlt : k < y.length := by omega
          have htk : x.length + (y.take k).length ≤ 1000000 := by simp; omega
          refine AWp.skip ?_
          refine thenQ_n ?_
          refine hK12 _ _ ?_
          try clear hK12 K12
          refine AWp.mask [true, true, true] rfl ?_
          simp only [go_sem]
          refine AWp.seq fun K14 hK14 => ?_
          refine AWp.block ?_
          refine AWp.rk fun K15 hK15 => ?_
          try simp only [go_sem, icast, ft0, byteRows_getD y k _ hlt]
          (repeat (with_reducible refine And.intro ?_ ?_; omega))
          refine DW.app rfl rfl rfl rfl (show slI Tryd.prog 33 = some (5, 1, 1) by simp only [go_sem]) rfl rfl (by simp only [go_sem, icast, ft0, byteRows_getD y k _ hlt]) (by first | exact .inl rfl | exact .inr rfl) (by (try simp only [go_sem, List.length_append, List.length_cons, List.length_nil]); omega) (by (try simp only [go_sem, List.length_append, List.length_cons, List.length_nil]); omega) fun t2 ft2 => ?_
          try simp only [freshT] at ft2
          try simp only [go_sem, icast, ft0, byteRows_getD y k _ hlt, ft2]
          refine hK15 _ _ ?_
          try clear hK15 K15
          refine blkQ_n (thenQ_n ?_)
          refine hK14 _ _ ?_
          try clear hK14 K14
          refine AWp.mask [true, true, true] rfl ?_
          simp only [go_sem]
          refine AWp.rk fun K16 hK16 => ?_
          try simp only [go_sem, icast, ft0, byteRows_getD y k _ hlt, ft2]
          (repeat (with_reducible refine And.intro ?_ ?_; omega))
          refine hK16 _ _ ?_
          try clear hK16 K16
          refine thenQ_n ?_
          refine EndS.mk [true] [false, true, true] [] [] [] [t2] rfl ?_ ?_
          · (try simp only [go_sem, icast, ft0, byteRows_getD y k _ hlt, ft2]) <;> try rfl
          refine .e ⟨_, ?_, k + 1, t2, rfl, ?_, ?_, ?_⟩
          · first | omega | (simp; omega) | (grind)
          · (try simp only [go_sem, icast, ft0, byteRows_getD y k _ hlt, ft2]) <;> first | exact ⟨rfl⟩ | (constructor; rw [take_get hlt, ← List.append_assoc, ← byteRows_app (x ++ y.take k)]; rfl)
          · (try simp only [go_sem, icast, ft0, byteRows_getD y k _ hlt, ft2]) <;> first | exact ⟨rfl⟩ | (constructor; simp; done)
          all_goals (first | omega | assumption | grind)
        · skip
          try simp only [decide_eq_true_eq, decide_eq_false_iff_not, Bool.not_eq_true', Bool.not_eq_false', Bool.and_eq_true, Bool.or_eq_true, Bool.and_eq_false_iff, Bool.or_eq_false_iff, Int.not_lt, Int.not_le, beq_iff_eq, beq_eq_false_iff_ne, ne_eq, Bool.not_eq_true, Bool.not_eq_false] at hc1
          refine AWp.exit ?_
          refine thenQ_e (thenQ_e (blkQ_e (thenQ_n ?_)))
          refine hK10 _ _ ?_
          try clear hK10 K10
          refine AWp.mask [false, true] rfl ?_
          simp only [go_sem]
          refine AWp.rs fun K17 hK17 => ?_
          try simp only [go_sem, icast, ft0]
          refine hK17 _ _ ?_
          try clear hK17 K17
          refine AWp.ret ?_
          try simp only [go_sem, icast, ft0]
          rw [List.take_of_length_le (by omega)]; try simp [LeA, LeD]
theorem nsB : isStr Tryd.prog 33 = false := by kernel_rfl
set_option maxRecDepth 4000 in
set_option maxHeartbeats 1000000 in
theorem lengthAnd_c (T : Tbl) (s : Tx) (hs : s.length ≤ 4096) : PC Tryd.prog T 95 [.d (.str s)] (.d (.slc 1 (byteRows (txS s)))) := by
  refine ⟨Tryd.call95, PCall.enterS Tryd.func95 rfl Tryd.ntmps95 rfl fun hb => ?_⟩
  simp only [go_sem, Tryd.results95]
  refine AWp.rs fun K1 hK1 => ?_
  try simp only [go_sem, tdiv256, tmod256, nsB, Bool.false_eq_true, if_false]
  refine hK1 _ _ ?_
  try clear hK1 K1
  refine AWp.rs fun K2 hK2 => ?_
  try simp only [go_sem, tdiv256, tmod256, nsB, Bool.false_eq_true, if_false]
  (repeat (with_reducible refine And.intro ?_ ?_; omega))
  refine DW.pcr rfl rfl rfl rfl (joined_c T [ub ((s.length / 256 : Nat) : Int), ub ((s.length % 256 : Nat) : Int)] s (by simp only [List.length_cons, List.length_nil]; omega)) rfl rfl ?_
  try simp only [go_sem, tdiv256, tmod256, nsB, Bool.false_eq_true, if_false]
  refine hK2 _ _ ?_
  try clear hK2 K2
  refine AWp.mask [false, true] rfl ?_
  simp only [go_sem]
  refine AWp.ret ?_
  try simp only [go_sem, tdiv256, tmod256, nsB, Bool.false_eq_true, if_false]
  rw [txS, wide2n]; try simp [LeA, LeD]
end Go.Proofs.YthhfbolhlbgbgaaDoor

namespace Go.Proofs.YthhfbolhlbgbgaaDoor
set_option linter.unusedSimpArgs false
set_option linter.unusedVariables false
def headS (x : Ent) : Tx := ub x.kind :: ub x.flags :: wideR x.uid 3
def partS (x : Ent) : Nat → Tx
  | 0 => txS x.box ++ (txS x.dest ++ txS x.text)
  | 1 => txS x.dest ++ txS x.text
  | 2 => txS x.text
  | _ => []
/-- an entry's bytes -/
def enS (x : Ent) : Tx := headS x ++ partS x 0
def ensS : List Ent → Tx
  | [] => []
  | x :: l => enS x ++ ensS l
def batS (u : Int) (l : List Ent) : Tx := ub u :: ub l.length :: ensS l
theorem ensS_drop {l : List Ent} {k : Nat} (h : k < l.length) : ensS (l.drop k) = enS (l[k]'h) ++ ensS (l.drop (k + 1)) := by rw [List.drop_eq_getElem_cons h]; rfl
theorem ensS_end {l : List Ent} {k : Nat} (h : l.length ≤ k) : ensS (l.drop k) = [] := by rw [List.drop_eq_nil_of_le h]; rfl
theorem nameE_le {s : Tx} (h : nameE s = 0) : s.length ≤ 12 := by
  unfold nameE at h
  split at h
  · omega
  · omega
/-- what an entry that may be holds -/
theorem ent_small {x : Ent} (h : entE x = 0) : x.box.length ≤ 12 ∧ x.dest.length ≤ 100 ∧ x.text.length ≤ 2000 ∧ 0 ≤ x.uid ∧ x.uid ≤ 1048576 ∧ 0 ≤ x.flags ∧ x.flags ≤ 31 ∧ 1 ≤ x.kind ∧ x.kind ≤ 6 := by
  unfold entE at h
  split at h
  · omega
  · rename_i hk
    split at h
    · omega
    · rename_i hf
      split at h
      · omega
      · rename_i h3
        split at h
        · omega
        · rename_i h4
          simp only [formB, Bool.or_eq_true, Bool.and_eq_true, Bool.not_eq_true', decide_eq_true_eq, decide_eq_false_iff_not, not_or, not_and, Classical.not_not] at hf
          obtain ⟨⟨⟨⟨f1, f2⟩, f3⟩, f4⟩, f5⟩ := hf
          split at h
          · rename_i h5
            have hb : x.box = [] := f1 h5
            have hd : x.dest.length ≤ 100 := by
              unfold destE at h
              split at h
              · omega
              · omega
            refine ⟨by rw [hb]; simp, hd, by omega, ?_⟩
            omega
          · rename_i h5
            split at h
            · rename_i h6; exact absurd h h6
            · rename_i h6
              have hbx := nameE_le (Classical.not_not.1 h6)
              split at h
              · have := nameE_le h
                refine ⟨hbx, by omega, by omega, ?_⟩
                omega
              · rename_i h7
                have hd : x.dest = [] := f2 ⟨h5, h7⟩
                refine ⟨hbx, by rw [hd]; simp, by omega, ?_⟩
                omega
theorem ents_small {l : List Ent} (h : firstE l = 0) : ∀ x ∈ l, entE x = 0 := by
  induction l with
  | nil => simp
  | cons y l ih =>
    rw [firstE] at h
    split at h
    · rename_i h1; exact absurd h h1
    · rename_i h1
      intro x hx
      rcases List.mem_cons.1 hx with rfl | hx
      · exact Classical.not_not.1 h1
      · exact ih h x hx
theorem batE_0 {u : Int} {l : List Ent} (h : batE u l = 0) : 0 ≤ u ∧ u ≤ 2 ∧ 1 ≤ l.length ∧ l.length ≤ 10 ∧ ∀ x ∈ l, entE x = 0 := by
  unfold batE at h
  split at h
  · omega
  · split at h
    · omega
    · exact ⟨by omega, by omega, by omega, by omega, ents_small h⟩
theorem enS_len {x : Ent} (h : entE x = 0) : (enS x).length ≤ 2200 := by
  obtain ⟨h1, h2, h3, _⟩ := ent_small h
  simp only [enS, headS, partS, List.length_append, List.length_cons, wideR_len, txS_len]
  omega
theorem byteRows_two (c d : UInt8) : [[D.int .u8 (c.toNat : Int)], [D.int .u8 (d.toNat : Int)]] = byteRows [c, d] := rfl
theorem len3 (n : Int) (h : n < 3) (h0 : 0 ≤ n) : n = 0 ∨ n = 1 ∨ n = 2 := by omega
def encT (u : Int) (l : List Ent) : Tx := if batE u l = 0 then batS u l else []
def encV (u : Int) (l : List Ent) : AV := .tup [.d (.slc 1 (byteRows (encT u l))), .d (.int .i64 (batE u l))]
set_option maxRecDepth 4000 in
set_option maxHeartbeats 1000000 in
theorem Encode_c (T : Tbl) (hL : LibT T) (u : Int) (l : List Ent) (ok : ∀ x ∈ l, EntOk x) : PC Tryd.prog T 59 [.agg [.d (.int .i64 u), .d (.slc 6 (entsD l))]] (encV u l) := by
  refine ⟨Tryd.call59, PCall.enterS Tryd.func59 rfl Tryd.ntmps59 rfl fun hb => ?_⟩
  simp only [go_sem, Tryd.results59]
  refine AWp.rs fun K1 hK1 => ?_
  try simp only [go_sem, icast, entD, entA, byteRows_two, byteRows_app]
  intro b1
  first | intro fb1 | have fb1 := True.intro
  try simp only [freshL] at fb1
  refine hK1 _ _ ?_
  try clear hK1 K1
  refine AWp.seq fun K2 hK2 => ?_
  refine AWp.rs fun K3 hK3 => ?_
  try simp only [go_sem, icast, entD, entA, byteRows_two, byteRows_app, fb1]
  refine DW.pcr rfl rfl rfl rfl (Check_c T hL u l ok) rfl rfl ?_
  try simp only [go_sem, icast, entD, entA, byteRows_two, byteRows_app, fb1]
  refine hK3 _ _ ?_
  try clear hK3 K3
  refine AWp.mask [false, true, false, false, true] rfl ?_
  simp only [go_sem]
  refine AWp.rs fun K4 hK4 => ?_
  try simp only [go_sem, icast, entD, entA, byteRows_two, byteRows_app, fb1]
  refine hK4 _ _ ?_
  try clear hK4 K4
  refine AWp.cond _ rfl (fun hc0 => ?_) (fun hc0 => ?_)
  · skip
    try simp only [decide_eq_true_eq, decide_eq_false_iff_not, Bool.not_eq_true', Bool.not_eq_false', Bool.and_eq_true, Bool.or_eq_true, Bool.and_eq_false_iff, Bool.or_eq_false_iff, Int.not_lt, Int.not_le, beq_iff_eq, beq_eq_false_iff_ne, ne_eq, Bool.not_eq_true, Bool.not_eq_false] at hc0
    have hb1 : ¬ batE u l = 0 := hc0
    refine AWp.rs fun K5 hK5 => ?_
    try simp only [go_sem, icast, entD, entA, byteRows_two, byteRows_app, fb1]
    refine hK5 _ _ ?_
    try clear hK5 K5
    refine AWp.mask [false, true, true] rfl ?_
    simp only [go_sem]
    refine AWp.ret ?_
    try simp only [go_sem, icast, entD, entA, byteRows_two, byteRows_app, fb1]
    rw [encV, encT, if_neg hc0]; simp [LeA, LeL, LeD, byteRows]
  · skip
    try simp only [decide_eq_true_eq, decide_eq_false_iff_not, Bool.not_eq_true', Bool.not_eq_false', Bool.and_eq_true, Bool.or_eq_true, Bool.and_eq_false_iff, Bool.or_eq_false_iff, Int.not_lt, Int.not_le, beq_iff_eq, beq_eq_false_iff_ne, ne_eq, Bool.not_eq_true, Bool.not_eq_false] at hc0
    obtain ⟨hu0, hu2, hl1, hl10, hen⟩ := batE_0 hc0
    refine AWp.skip ?_
    refine thenQ_n ?_
    refine hK2 _ _ ?_
    try clear hK2 K2
    refine AWp.cut 7 fun K6 hK6 => ?_
    simp only [List.take_succ_cons, List.take_zero, List.drop_succ_cons, List.drop_zero]
    try simp only [go_sem, icast, entD, entA, byteRows_two, byteRows_app, fb1]
    refine DW.bsO (he := by first | rfl | kernel_rfl) rfl rfl (show slI Tryd.prog 33 = some (5, 1, 1) by simp only [go_sem]) (by (try simp only [go_sem, icast, entD, entA, byteRows_two, byteRows_app, fb1]); rfl) rfl (by decide) fun t1 ft1 => ?_
    try simp only [freshT] at ft1
    try simp only [go_sem, icast, entD, entA, byteRows_two, byteRows_app, fb1, ft1]
    refine hK6 _ _ ?_
    try clear hK6 K6
    refine AWp.mask [true, false, true] rfl ?_
    simp only [go_sem]
    refine AWp.seq fun K7 hK7 => ?_
    refine AWp.rs fun K8 hK8 => ?_
    try simp only [go_sem, icast, entD, entA, byteRows_two, byteRows_app, fb1, ft1]
    refine hK8 _ _ ?_
    try clear hK8 K8
    refine AWp.block ?_
    refine AWp.mask [false, true, false, true, true, true] rfl ?_
    simp only [go_sem]
    refine AWp.loopS [false, true, true] [true, false, false, true] (fun n lc hc => ∃ (k v : Nat) (Z : Tx), n = l.length - k ∧ EqS lc [(5, .own v 1 (byteRows Z)), (26, .d (.int .i64 k))] ∧ EqS hc (⟨[(b1, ⟨2, 1, [[.d (.int .i64 u), .d (.slc 6 (entsD l))]]⟩)], [v]⟩) ∧ (k ≤ l.length) ∧ (Z ++ ensS (l.drop k) = batS u l) ∧ (Z.length ≤ 2 + 2200 * k)) rfl ?_ ?_
    · refine ⟨_, 0, t1, [ub u, ub l.length], rfl, ?_, ?_, ?_, ?_, ?_⟩
      · (try simp only [go_sem, icast, entD, entA, byteRows_two, byteRows_app, fb1, ft1]) <;> first | exact ⟨rfl⟩ | (constructor; rfl)
      · (try simp only [go_sem, icast, entD, entA, byteRows_two, byteRows_app, fb1, ft1]) <;> first | exact ⟨rfl⟩ | (constructor; simp; done)
      all_goals (first | omega | rfl | (simp; done))
    · rintro _ _ _ ⟨k, v, Z, rfl, ⟨rfl⟩, ⟨rfl⟩, h1, h2, h3⟩
      simp only [go_sem]
      refine AWp.rs fun K9 hK9 => ?_
      try simp only [go_sem, icast, entD, entA, byteRows_two, byteRows_app, fb1, ft1]
      refine hK9 _ _ ?_
      try clear hK9 K9
      refine AWp.seq fun K10 hK10 => ?_
      refine AWp.cond _ rfl (fun hc1 => ?_) (fun hc1 => ?_)
      · skip
        try simp only [decide_eq_true_eq, decide_eq_false_iff_not, Bool.not_eq_true', Bool.not_eq_false', Bool.and_eq_true, Bool.or_eq_true, Bool.and_eq_false_iff, Bool.or_eq_false_iff, Int.not_lt, Int.not_le, beq_iff_eq, beq_eq_false_iff_ne, ne_eq, Bool.not_eq_true, Bool.not_eq_false] at hc1
        have hlt : k < l.length := by omega
        have hE := hen _ (List.getElem_mem hlt)
        obtain ⟨s1, s2, s3, s4, s5, s6, s7, s8, s9⟩ := ent_small hE
        have hel := enS_len hE
        refine AWp.skip ?_
        refine thenQ_n ?_
        refine hK10 _ _ ?_
        try clear hK10 K10
        refine AWp.seq fun K11 hK11 => ?_
        refine AWp.block ?_
        refine AWp.rs fun K12 hK12 => ?_
        try simp only [go_sem, icast, entD, entA, byteRows_two, byteRows_app, fb1, ft1, entsD_get l k _ hlt]
        (repeat (with_reducible refine And.intro ?_ ?_; omega))
        intro b7
        first | intro fb7 | have fb7 := True.intro
        try simp only [freshL] at fb7
        refine hK12 _ _ ?_
        try clear hK12 K12
        refine AWp.rs fun K13 hK13 => ?_
        try simp only [go_sem, icast, entD, entA, byteRows_two, byteRows_app, fb1, ft1, entsD_get l k _ hlt, fb7]
        refine DW.app rfl rfl rfl rfl (show slI Tryd.prog 33 = some (5, 1, 1) by simp only [go_sem]) rfl rfl (by simp only [go_sem, icast, entD, entA, byteRows_two, byteRows_app, fb1, ft1, entsD_get l k _ hlt, fb7]) (by first | exact .inl rfl | exact .inr rfl) (by (try simp only [go_sem, List.length_append, List.length_cons, List.length_nil, wideR_len, txS_len]); omega) (by (try simp only [go_sem, List.length_append, List.length_cons, List.length_nil, wideR_len, txS_len]); omega) fun t2 ft2 => ?_
        try simp only [freshT] at ft2
        try simp only [go_sem, icast, entD, entA, byteRows_two, byteRows_app, fb1, ft1, entsD_get l k _ hlt, fb7, ft2]
        refine hK13 _ _ ?_
        try clear hK13 K13
        refine AWp.mask [true, true, true, true, true] rfl ?_
        simp only [go_sem]
        refine AWp.rs fun K14 hK14 => ?_
        try simp only [go_sem, icast, entD, entA, byteRows_two, byteRows_app, fb1, ft1, entsD_get l k _ hlt, fb7, ft2]
        refine DW.acp [] [t2] rfl rfl rfl rfl (by (try simp only [go_sem, icast, entD, entA, byteRows_two, byteRows_app, fb1, ft1, entsD_get l k _ hlt, fb7, ft2]); rfl) rfl (wide_c T t2 _ (l[k]'hlt).uid 3 _ _ (by omega) (by trivial) (by (try simp only [List.length_append, List.length_cons, List.length_nil, wideR_len]); omega)) ?_
        rintro _ _ ⟨W15, fW15, rfl, rfl⟩
        try simp only [freshT, freshL] at fW15
        try simp only [go_sem, icast, entD, entA, byteRows_two, byteRows_app, fb1, ft1, entsD_get l k _ hlt, fb7, ft2, fW15]
        refine hK14 _ _ ?_
        try clear hK14 K14
        refine AWp.mask [true, true, true, true, true] rfl ?_
        simp only [go_sem]
        refine AWp.rs fun K16 hK16 => ?_
        try simp only [go_sem, icast, entD, entA, byteRows_two, byteRows_app, fb1, ft1, entsD_get l k _ hlt, fb7, ft2, fW15]
        refine hK16 _ _ ?_
        try clear hK16 K16
        refine AWp.mask [true, false, true, true, true, false, false, false, false, false, false, true, true] rfl ?_
        simp only [go_sem]
        refine AWp.block ?_
        refine AWp.loopS [false, true, true, true, true] [true, false, false, false, false, true] (fun n lc hc => ∃ (j v : Nat) (Z2 : Tx), n = 3 - j ∧ EqS lc [(5, .own v 1 (byteRows Z2)), (50, .d (.int .i64 j))] ∧ EqS hc (⟨[(b7, ⟨6, 1, [entA (l[k]'hlt)]⟩), (b1, ⟨2, 1, [[.d (.int .i64 u), .d (.slc 6 (entsD l))]]⟩)], [v]⟩) ∧ (j ≤ 3) ∧ (Z2 ++ partS (l[k]'hlt) j = Z ++ enS (l[k]'hlt))) rfl ?_ ?_
        · refine ⟨_, 0, W15, (Z ++ [ub (l[k]'hlt).kind, ub (l[k]'hlt).flags] ++ wideR (l[k]'hlt).uid 3), rfl, ?_, ?_, ?_, ?_⟩
          · (try simp only [go_sem, icast, entD, entA, byteRows_two, byteRows_app, fb1, ft1, entsD_get l k _ hlt, fb7, ft2, fW15]) <;> first | exact ⟨rfl⟩ | (constructor; rfl)
          · (try simp only [go_sem, icast, entD, entA, byteRows_two, byteRows_app, fb1, ft1, entsD_get l k _ hlt, fb7, ft2, fW15]) <;> first | exact ⟨rfl⟩ | (constructor; simp; done)
          all_goals (first | omega | (simp [enS, headS]; done))
        · rintro _ _ _ ⟨j, v, Z2, rfl, ⟨rfl⟩, ⟨rfl⟩, g1, g2⟩
          simp only [go_sem]
          refine AWp.rs fun K17 hK17 => ?_
          try simp only [go_sem, icast, entD, entA, byteRows_two, byteRows_app, fb1, ft1, entsD_get l k _ hlt, fb7, ft2, fW15]
          refine hK17 _ _ ?_
          try clear hK17 K17
          refine AWp.seq fun K18 hK18 => ?_
          refine AWp.cond _ rfl (fun hc2 => ?_) (fun hc2 => ?_)
          · skip
            try simp only [decide_eq_true_eq, decide_eq_false_iff_not, Bool.not_eq_true', Bool.not_eq_false', Bool.and_eq_true, Bool.or_eq_true, Bool.and_eq_false_iff, Bool.or_eq_false_iff, Int.not_lt, Int.not_le, beq_iff_eq, beq_eq_false_iff_ne, ne_eq, Bool.not_eq_true, Bool.not_eq_false] at hc2
            refine AWp.skip ?_
            refine thenQ_n ?_
            refine hK18 _ _ ?_
            try clear hK18 K18
            refine AWp.seq fun K19 hK19 => ?_
            refine AWp.block ?_
            have g2l := congrArg List.length g2
            simp only [List.length_append] at g2l
            have hj3 := len3 _ hc2 (by omega)
            rcases (show j = 0 ∨ j = 1 ∨ j = 2 by omega) with rfl | rfl | rfl
            · skip
              have hz3 : Z2 ++ txS (l[k]'hlt).box ++ partS (l[k]'hlt) 1 = Z ++ enS (l[k]'hlt) := by rw [← g2]; simp [partS]
              refine AWp.rs fun K20 hK20 => ?_
              try simp only [go_sem, icast, entD, entA, byteRows_two, byteRows_app, fb1, ft1, entsD_get l k _ hlt, fb7, ft2, fW15]
              (repeat (with_reducible refine And.intro ?_ ?_; omega))
              refine hK20 _ _ ?_
              try clear hK20 K20
              refine AWp.rk fun K21 hK21 => ?_
              try simp only [go_sem, icast, entD, entA, byteRows_two, byteRows_app, fb1, ft1, entsD_get l k _ hlt, fb7, ft2, fW15]
              refine DW.acp [] [v] rfl rfl rfl rfl (by (try simp only [go_sem, icast, entD, entA, byteRows_two, byteRows_app, fb1, ft1, entsD_get l k _ hlt, fb7, ft2, fW15]); rfl) rfl (wide_c T v _ (l[k]'hlt).box.length 2 _ _ (by omega) (by trivial) (by (try simp only [List.length_append, List.length_cons, List.length_nil, wideR_len]); omega)) ?_
              rintro _ _ ⟨W22, fW22, rfl, rfl⟩
              try simp only [freshT, freshL] at fW22
              try simp only [go_sem, icast, entD, entA, byteRows_two, byteRows_app, fb1, ft1, entsD_get l k _ hlt, fb7, ft2, fW15, fW22]
              refine DW.app rfl rfl rfl rfl (show slI Tryd.prog 33 = some (5, 1, 1) by simp only [go_sem]) rfl rfl (by simp only [go_sem, icast, entD, entA, byteRows_two, byteRows_app, fb1, ft1, entsD_get l k _ hlt, fb7, ft2, fW15, fW22]) (by first | exact .inl rfl | exact .inr rfl) (by (try simp only [go_sem, List.length_append, List.length_cons, List.length_nil, wideR_len, txS_len]); omega) (by (try simp only [go_sem, List.length_append, List.length_cons, List.length_nil, wideR_len, txS_len]); omega) fun t3 ft3 => ?_
              try simp only [freshT] at ft3
              try simp only [go_sem, icast, entD, entA, byteRows_two, byteRows_app, fb1, ft1, entsD_get l k _ hlt, fb7, ft2, fW15, fW22, ft3]
              refine hK21 _ _ ?_
              try clear hK21 K21
              refine blkQ_n (thenQ_n ?_)
              refine hK19 _ _ ?_
              try clear hK19 K19
              refine AWp.mask [true, false, true, true, true, true, true] rfl ?_
              simp only [go_sem]
              refine AWp.rk fun K23 hK23 => ?_
              try simp only [go_sem, icast, entD, entA, byteRows_two, byteRows_app, fb1, ft1, entsD_get l k _ hlt, fb7, ft2, fW15, fW22, ft3]
              (repeat (with_reducible refine And.intro ?_ ?_; omega))
              refine hK23 _ _ ?_
              try clear hK23 K23
              refine thenQ_n ?_
              refine EndS.mk [false, true, true, true, true] [true, false, false, false, false, true] [] [] [b7, b1] [t3] rfl ?_ ?_
              · (try simp only [go_sem, icast, entD, entA, byteRows_two, byteRows_app, fb1, ft1, entsD_get l k _ hlt, fb7, ft2, fW15, fW22, ft3]) <;> try rfl
              refine .e ⟨_, ?_, 1, t3, (Z2 ++ txS (l[k]'hlt).box), rfl, ?_, ?_, ?_, ?_⟩
              · first | omega | (simp; omega) | (grind)
              · (try simp only [go_sem, icast, entD, entA, byteRows_two, byteRows_app, fb1, ft1, entsD_get l k _ hlt, fb7, ft2, fW15, fW22, ft3]) <;> first | exact ⟨rfl⟩ | (constructor; first | rfl | (simp [txS]; done))
              · (try simp only [go_sem, icast, entD, entA, byteRows_two, byteRows_app, fb1, ft1, entsD_get l k _ hlt, fb7, ft2, fW15, fW22, ft3]) <;> first | exact ⟨rfl⟩ | (constructor; simp; done)
              all_goals first | omega | exact hz3
            · skip
              have hz3 : Z2 ++ txS (l[k]'hlt).dest ++ partS (l[k]'hlt) 2 = Z ++ enS (l[k]'hlt) := by rw [← g2]; simp [partS]
              refine AWp.rs fun K20 hK20 => ?_
              try simp only [go_sem, icast, entD, entA, byteRows_two, byteRows_app, fb1, ft1, entsD_get l k _ hlt, fb7, ft2, fW15]
              (repeat (with_reducible refine And.intro ?_ ?_; omega))
              refine hK20 _ _ ?_
              try clear hK20 K20
              refine AWp.rk fun K24 hK24 => ?_
              try simp only [go_sem, icast, entD, entA, byteRows_two, byteRows_app, fb1, ft1, entsD_get l k _ hlt, fb7, ft2, fW15]
              refine DW.acp [] [v] rfl rfl rfl rfl (by (try simp only [go_sem, icast, entD, entA, byteRows_two, byteRows_app, fb1, ft1, entsD_get l k _ hlt, fb7, ft2, fW15]); rfl) rfl (wide_c T v _ (l[k]'hlt).dest.length 2 _ _ (by omega) (by trivial) (by (try simp only [List.length_append, List.length_cons, List.length_nil, wideR_len]); omega)) ?_
              rintro _ _ ⟨W25, fW25, rfl, rfl⟩
              try simp only [freshT, freshL] at fW25
              try simp only [go_sem, icast, entD, entA, byteRows_two, byteRows_app, fb1, ft1, entsD_get l k _ hlt, fb7, ft2, fW15, fW25]
              refine DW.app rfl rfl rfl rfl (show slI Tryd.prog 33 = some (5, 1, 1) by simp only [go_sem]) rfl rfl (by simp only [go_sem, icast, entD, entA, byteRows_two, byteRows_app, fb1, ft1, entsD_get l k _ hlt, fb7, ft2, fW15, fW25]) (by first | exact .inl rfl | exact .inr rfl) (by (try simp only [go_sem, List.length_append, List.length_cons, List.length_nil, wideR_len, txS_len]); omega) (by (try simp only [go_sem, List.length_append, List.length_cons, List.length_nil, wideR_len, txS_len]); omega) fun t4 ft4 => ?_
              try simp only [freshT] at ft4
              try simp only [go_sem, icast, entD, entA, byteRows_two, byteRows_app, fb1, ft1, entsD_get l k _ hlt, fb7, ft2, fW15, fW25, ft4]
              refine hK24 _ _ ?_
              try clear hK24 K24
              refine blkQ_n (thenQ_n ?_)
              refine hK19 _ _ ?_
              try clear hK19 K19
              refine AWp.mask [true, false, true, true, true, true, true] rfl ?_
              simp only [go_sem]
              refine AWp.rk fun K26 hK26 => ?_
              try simp only [go_sem, icast, entD, entA, byteRows_two, byteRows_app, fb1, ft1, entsD_get l k _ hlt, fb7, ft2, fW15, fW25, ft4]
              (repeat (with_reducible refine And.intro ?_ ?_; omega))
              refine hK26 _ _ ?_
              try clear hK26 K26
              refine thenQ_n ?_
              refine EndS.mk [false, true, true, true, true] [true, false, false, false, false, true] [] [] [b7, b1] [t4] rfl ?_ ?_
              · (try simp only [go_sem, icast, entD, entA, byteRows_two, byteRows_app, fb1, ft1, entsD_get l k _ hlt, fb7, ft2, fW15, fW25, ft4]) <;> try rfl
              refine .e ⟨_, ?_, 2, t4, (Z2 ++ txS (l[k]'hlt).dest), rfl, ?_, ?_, ?_, ?_⟩
              · first | omega | (simp; omega) | (grind)
              · (try simp only [go_sem, icast, entD, entA, byteRows_two, byteRows_app, fb1, ft1, entsD_get l k _ hlt, fb7, ft2, fW15, fW25, ft4]) <;> first | exact ⟨rfl⟩ | (constructor; first | rfl | (simp [txS]; done))
              · (try simp only [go_sem, icast, entD, entA, byteRows_two, byteRows_app, fb1, ft1, entsD_get l k _ hlt, fb7, ft2, fW15, fW25, ft4]) <;> first | exact ⟨rfl⟩ | (constructor; simp; done)
              all_goals first | omega | exact hz3
            · skip
              have hz3 : Z2 ++ txS (l[k]'hlt).text ++ partS (l[k]'hlt) 3 = Z ++ enS (l[k]'hlt) := by rw [← g2]; simp [partS]
              refine AWp.rs fun K20 hK20 => ?_
              try simp only [go_sem, icast, entD, entA, byteRows_two, byteRows_app, fb1, ft1, entsD_get l k _ hlt, fb7, ft2, fW15]
              (repeat (with_reducible refine And.intro ?_ ?_; omega))
              refine hK20 _ _ ?_
              try clear hK20 K20
              refine AWp.rk fun K27 hK27 => ?_
              try simp only [go_sem, icast, entD, entA, byteRows_two, byteRows_app, fb1, ft1, entsD_get l k _ hlt, fb7, ft2, fW15]
              refine DW.acp [] [v] rfl rfl rfl rfl (by (try simp only [go_sem, icast, entD, entA, byteRows_two, byteRows_app, fb1, ft1, entsD_get l k _ hlt, fb7, ft2, fW15]); rfl) rfl (wide_c T v _ (l[k]'hlt).text.length 2 _ _ (by omega) (by trivial) (by (try simp only [List.length_append, List.length_cons, List.length_nil, wideR_len]); omega)) ?_
              rintro _ _ ⟨W28, fW28, rfl, rfl⟩
              try simp only [freshT, freshL] at fW28
              try simp only [go_sem, icast, entD, entA, byteRows_two, byteRows_app, fb1, ft1, entsD_get l k _ hlt, fb7, ft2, fW15, fW28]
              refine DW.app rfl rfl rfl rfl (show slI Tryd.prog 33 = some (5, 1, 1) by simp only [go_sem]) rfl rfl (by simp only [go_sem, icast, entD, entA, byteRows_two, byteRows_app, fb1, ft1, entsD_get l k _ hlt, fb7, ft2, fW15, fW28]) (by first | exact .inl rfl | exact .inr rfl) (by (try simp only [go_sem, List.length_append, List.length_cons, List.length_nil, wideR_len, txS_len]); omega) (by (try simp only [go_sem, List.length_append, List.length_cons, List.length_nil, wideR_len, txS_len]); omega) fun t5 ft5 => ?_
              try simp only [freshT] at ft5
              try simp only [go_sem, icast, entD, entA, byteRows_two, byteRows_app, fb1, ft1, entsD_get l k _ hlt, fb7, ft2, fW15, fW28, ft5]
              refine hK27 _ _ ?_
              try clear hK27 K27
              refine blkQ_n (thenQ_n ?_)
              refine hK19 _ _ ?_
              try clear hK19 K19
              refine AWp.mask [true, false, true, true, true, true, true] rfl ?_
              simp only [go_sem]
              refine AWp.rk fun K29 hK29 => ?_
              try simp only [go_sem, icast, entD, entA, byteRows_two, byteRows_app, fb1, ft1, entsD_get l k _ hlt, fb7, ft2, fW15, fW28, ft5]
              (repeat (with_reducible refine And.intro ?_ ?_; omega))
              refine hK29 _ _ ?_
              try clear hK29 K29
              refine thenQ_n ?_
              refine EndS.mk [false, true, true, true, true] [true, false, false, false, false, true] [] [] [b7, b1] [t5] rfl ?_ ?_
              · (try simp only [go_sem, icast, entD, entA, byteRows_two, byteRows_app, fb1, ft1, entsD_get l k _ hlt, fb7, ft2, fW15, fW28, ft5]) <;> try rfl
              refine .e ⟨_, ?_, 3, t5, (Z2 ++ txS (l[k]'hlt).text), rfl, ?_, ?_, ?_, ?_⟩
              · first | omega | (simp; omega) | (grind)
              · (try simp only [go_sem, icast, entD, entA, byteRows_two, byteRows_app, fb1, ft1, entsD_get l k _ hlt, fb7, ft2, fW15, fW28, ft5]) <;> first | exact ⟨rfl⟩ | (constructor; first | rfl | (simp [txS]; done))
              · (try simp only [go_sem, icast, entD, entA, byteRows_two, byteRows_app, fb1, ft1, entsD_get l k _ hlt, fb7, ft2, fW15, fW28, ft5]) <;> first | exact ⟨rfl⟩ | (constructor; simp; done)
              all_goals first | omega | exact hz3
          · skip
            try simp only [decide_eq_true_eq, decide_eq_false_iff_not, Bool.not_eq_true', Bool.not_eq_false', Bool.and_eq_true, Bool.or_eq_true, Bool.and_eq_false_iff, Bool.or_eq_false_iff, Int.not_lt, Int.not_le, beq_iff_eq, beq_eq_false_iff_ne, ne_eq, Bool.not_eq_true, Bool.not_eq_false] at hc2
            have hj : j = 3 := by omega
            have g4 : Z2 ++ partS (l[k]'hlt) 3 = Z ++ enS (l[k]'hlt) := by rw [← hj]; exact g2
            refine AWp.exit ?_
            refine thenQ_e (thenQ_e (blkQ_e (blkQ_n (thenQ_n ?_))))
            refine hK11 _ _ ?_
            try clear hK11 K11
            refine AWp.rk fun K30 hK30 => ?_
            try simp only [go_sem, icast, entD, entA, byteRows_two, byteRows_app, fb1, ft1, entsD_get l k _ hlt, fb7, ft2, fW15]
            (repeat (with_reducible refine And.intro ?_ ?_; omega))
            refine hK30 _ _ ?_
            try clear hK30 K30
            refine thenQ_n ?_
            refine EndS.mk [false, true, true] [true, false, false, true] [b7] [] [b1] [v] rfl ?_ ?_
            · (try simp only [go_sem, icast, entD, entA, byteRows_two, byteRows_app, fb1, ft1, entsD_get l k _ hlt, fb7, ft2, fW15]) <;> try rfl
            refine .e ⟨_, ?_, k + 1, v, Z2, rfl, ?_, ?_, ?_, ?_, ?_⟩
            · first | omega | (simp; omega) | (grind)
            · (try simp only [go_sem, icast, entD, entA, byteRows_two, byteRows_app, fb1, ft1, entsD_get l k _ hlt, fb7, ft2, fW15]) <;> first | exact ⟨rfl⟩ | (constructor; simp; done)
            · (try simp only [go_sem, icast, entD, entA, byteRows_two, byteRows_app, fb1, ft1, entsD_get l k _ hlt, fb7, ft2, fW15]) <;> first | exact ⟨rfl⟩ | (constructor; simp; done)
            all_goals first | omega | (rw [← h2, ensS_drop hlt, ← List.append_assoc, ← g4]; simp [partS]; done) | (simp [partS] at g4; rw [g4]; simp; omega)
      · skip
        try simp only [decide_eq_true_eq, decide_eq_false_iff_not, Bool.not_eq_true', Bool.not_eq_false', Bool.and_eq_true, Bool.or_eq_true, Bool.and_eq_false_iff, Bool.or_eq_false_iff, Int.not_lt, Int.not_le, beq_iff_eq, beq_eq_false_iff_ne, ne_eq, Bool.not_eq_true, Bool.not_eq_false] at hc1
        refine AWp.exit ?_
        refine thenQ_e (thenQ_e (blkQ_e (thenQ_n ?_)))
        refine hK7 _ _ ?_
        try clear hK7 K7
        refine AWp.mask [true] rfl ?_
        simp only [go_sem]
        refine AWp.rs fun K31 hK31 => ?_
        try simp only [go_sem, icast, entD, entA, byteRows_two, byteRows_app, fb1, ft1]
        refine hK31 _ _ ?_
        try clear hK31 K31
        refine AWp.ret ?_
        try simp only [go_sem, icast, entD, entA, byteRows_two, byteRows_app, fb1, ft1]
        have hk : Z = batS u l := by rw [← h2, ensS_end (by omega), List.append_nil]
        rw [encV, encT, if_pos hc0, hk]; simp [LeA, LeL, LeD]; omega
end Go.Proofs.YthhfbolhlbgbgaaDoor

namespace Go.Proofs.YthhfbolhlbgbgaaDoor
set_option linter.unusedSimpArgs false
set_option linter.unusedVariables false
set_option maxRecDepth 4000 in
set_option maxHeartbeats 1000000 in
theorem joinedO_c (T : Tbl) (u : Nat) (x y : Tx) (F : List (Nat × Ob)) (L : List Nat) (hu : freshT u L) (hl : x.length + y.length ≤ 1000000) : AC Tryd.prog T 63 [.own u 1 (byteRows x), .d (.slc 1 (byteRows (y)))] (⟨F, u :: L⟩) (fun r h => ∃ v, freshT v L ∧ r = .ret (.own v 1 (byteRows (x ++ y))) ∧ h = ⟨F, v :: L⟩) := by
  refine ⟨Tryd.call63, ACalls.enterS Tryd.func63 rfl Tryd.ntmps63 rfl fun hb => ?_⟩
  simp only [go_sem, Tryd.results63]
  refine AWp.rs fun K1 hK1 => ?_
  try simp only [go_sem, icast, byteRows_one, byteRows_app]
  refine hK1 _ _ ?_
  try clear hK1 K1
  refine AWp.rs fun K2 hK2 => ?_
  try simp only [go_sem, icast, byteRows_one, byteRows_app]
  refine hK2 _ _ ?_
  try clear hK2 K2
  refine AWp.ownNilS 5 1 rfl rfl (by decide) fun t0 ft0 => ?_
  try simp only [freshT] at ft0
  simp only [go_sem, icast, byteRows_one, byteRows_app, ft0]
  refine AWp.seq fun K3 hK3 => ?_
  refine AWp.rs fun K4 hK4 => ?_
  try simp only [go_sem, icast, byteRows_one, byteRows_app, ft0]
  refine hK4 _ _ ?_
  try clear hK4 K4
  refine AWp.block ?_
  refine AWp.mask [true, true, false, true, true] rfl ?_
  simp only [go_sem]
  refine AWp.loopS [true, true] [false, false, true, true] (fun n lc hc => ∃ (k v : Nat), n = x.length - k ∧ EqS lc [(5, .own v 1 (byteRows (x.take k))), (6, .d (.int .i64 k))] ∧ EqS hc (⟨F, v :: u :: L⟩) ∧ (k ≤ x.length) ∧ (freshT v (u :: L))) rfl ?_ ?_
  · refine ⟨_, 0, t0, rfl, ?_, ?_, ?_, ?_⟩
    · (try simp only [go_sem, icast, byteRows_one, byteRows_app, ft0]) <;> first | exact ⟨rfl⟩ | (constructor; simp [byteRows]; done)
    · (try simp only [go_sem, icast, byteRows_one, byteRows_app, ft0]) <;> first | exact ⟨rfl⟩ | (constructor; simp; done)
    all_goals (first | omega | assumption | (simp only [go_sem, freshT] at *; done) | (simp_all [freshT]; done))
  · rintro _ _ _ ⟨k, v, rfl, ⟨rfl⟩, ⟨rfl⟩, h1, h2⟩
    simp only [go_sem]
    refine AWp.seq fun K5 hK5 => ?_
    refine AWp.rs fun K6 hK6 => ?_
    try simp only [go_sem, icast, byteRows_one, byteRows_app, ft0]
    refine hK6 _ _ ?_
    try clear hK6 K6
    refine AWp.cond _ rfl (fun hc0 => ?_) (fun hc0 => ?_)
    · skip
      try simp only [decide_eq_true_eq, decide_eq_false_iff_not, Bool.not_eq_true', Bool.not_eq_false', Bool.and_eq_true, Bool.or_eq_true, Bool.and_eq_false_iff, Bool.or_eq_false_iff, Int.not_lt, Int.not_le, beq_iff_eq, beq_eq_false_iff_ne, ne_eq, Bool.not_eq_true, Bool.not_eq_false] at hc0
      have hlt : k < x.length := by omega
      have htk : (x.take k).length ≤ 1000000 := by simp; omega
      refine AWp.skip ?_
      refine thenQ_n ?_
      refine hK5 _ _ ?_
      try clear hK5 K5
      refine AWp.mask [true, true, true, true] rfl ?_
      simp only [go_sem]
      refine AWp.seq fun K7 hK7 => ?_
      refine AWp.block ?_
      refine AWp.rk fun K8 hK8 => ?_
      try simp only [go_sem, icast, byteRows_one, byteRows_app, ft0, byteRows_getD x k _ hlt]
      (repeat (with_reducible refine And.intro ?_ ?_; omega))
      refine DW.app rfl rfl rfl rfl (show slI Tryd.prog 33 = some (5, 1, 1) by simp only [go_sem]) rfl rfl (by simp only [go_sem, icast, byteRows_one, byteRows_app, ft0, byteRows_getD x k _ hlt]) (by first | exact .inl rfl | exact .inr rfl) (by (try simp only [go_sem, List.length_append, List.length_cons, List.length_nil, wideR_len, txS_len]); omega) (by (try simp only [go_sem, List.length_append, List.length_cons, List.length_nil, wideR_len, txS_len]); omega) fun t1 ft1 => ?_
      try simp only [freshT] at ft1
      try simp only [go_sem, icast, byteRows_one, byteRows_app, ft0, byteRows_getD x k _ hlt, ft1]
      refine hK8 _ _ ?_
      try clear hK8 K8
      refine blkQ_n (thenQ_n ?_)
      refine hK7 _ _ ?_
      try clear hK7 K7
      refine AWp.mask [true, true, true, true] rfl ?_
      simp only [go_sem]
      refine AWp.rk fun K9 hK9 => ?_
      try simp only [go_sem, icast, byteRows_one, byteRows_app, ft0, byteRows_getD x k _ hlt, ft1]
      (repeat (with_reducible refine And.intro ?_ ?_; omega))
      refine hK9 _ _ ?_
      try clear hK9 K9
      refine thenQ_n ?_
      refine EndS.mk [true, true] [false, false, true, true] [] [] [] [t1, u] rfl ?_ ?_
      · (try simp only [go_sem, icast, byteRows_one, byteRows_app, ft0, byteRows_getD x k _ hlt, ft1]) <;> try rfl
      refine .e ⟨_, ?_, k + 1, t1, rfl, ?_, ?_, ?_, ?_⟩
      · first | omega | (simp; omega) | (grind)
      · (try simp only [go_sem, icast, byteRows_one, byteRows_app, ft0, byteRows_getD x k _ hlt, ft1]) <;> first | exact ⟨rfl⟩ | (constructor; rw [take_get hlt])
      · (try simp only [go_sem, icast, byteRows_one, byteRows_app, ft0, byteRows_getD x k _ hlt, ft1]) <;> first | exact ⟨rfl⟩ | (constructor; simp; done)
      · omega
      · first | assumption | (simp_all [freshT]; done)
    · skip
      try simp only [decide_eq_true_eq, decide_eq_false_iff_not, Bool.not_eq_true', Bool.not_eq_false', Bool.and_eq_true, Bool.or_eq_true, Bool.and_eq_false_iff, Bool.or_eq_false_iff, Int.not_lt, Int.not_le, beq_iff_eq, beq_eq_false_iff_ne, ne_eq, Bool.not_eq_true, Bool.not_eq_false] at hc0
      have hk : k = x.length := by omega
      subst hk
      rw [List.take_length]
      refine AWp.exit ?_
      refine thenQ_e (thenQ_e (blkQ_e (thenQ_n ?_)))
      refine hK3 _ _ ?_
      try clear hK3 K3
      refine AWp.mask [false, true, true] rfl ?_
      simp only [go_sem]
      refine AWp.seq fun K10 hK10 => ?_
      refine AWp.rs fun K11 hK11 => ?_
      try simp only [go_sem, icast, byteRows_one, byteRows_app, ft0]
      refine hK11 _ _ ?_
      try clear hK11 K11
      refine AWp.block ?_
      refine AWp.loopS [true] [false, true, true] (fun n lc hc => ∃ (k v : Nat), n = y.length - k ∧ EqS lc [(5, .own v 1 (byteRows (x ++ y.take k))), (7, .d (.int .i64 k))] ∧ EqS hc (⟨F, v :: u :: L⟩) ∧ (k ≤ y.length) ∧ (freshT v (u :: L))) rfl ?_ ?_
      · refine ⟨_, 0, v, rfl, ?_, ?_, ?_, ?_⟩
        · (try simp only [go_sem, icast, byteRows_one, byteRows_app, ft0]) <;> first | exact ⟨rfl⟩ | (constructor; simp; done)
        · (try simp only [go_sem, icast, byteRows_one, byteRows_app, ft0]) <;> first | exact ⟨rfl⟩ | (constructor; simp; done)
        all_goals (first | omega | assumption | (simp_all [freshT]; done))
      · rintro _ _ _ ⟨k, v, rfl, ⟨rfl⟩, ⟨rfl⟩, h1, h2⟩
        simp only [go_sem]
        refine AWp.seq fun K12 hK12 => ?_
        refine AWp.rs fun K13 hK13 => ?_
        try simp only [go_sem, icast, byteRows_one, byteRows_app, ft0]
        refine hK13 _ _ ?_
        try clear hK13 K13
        refine AWp.cond _ rfl (fun hc1 => ?_) (fun hc1 => ?_)
        · skip
          try simp only [decide_eq_true_eq, decide_eq_false_iff_not, Bool.not_eq_true', Bool.not_eq_false', Bool.and_eq_true, Bool.or_eq_true, Bool.and_eq_false_iff, Bool.or_eq_false_iff, Int.not_lt, Int.not_le, beq_iff_eq, beq_eq_false_iff_ne, ne_eq, Bool.not_eq_true, Bool.not_eq_false] at hc1
          have hlt : k < y.length := by omega
          have htk : x.length + (y.take k).length ≤ 1000000 := by simp; omega
          refine AWp.skip ?_
          refine thenQ_n ?_
          refine hK12 _ _ ?_
          try clear hK12 K12
          refine AWp.mask [true, true, true] rfl ?_
          simp only [go_sem]
          refine AWp.seq fun K14 hK14 => ?_
          refine AWp.block ?_
          refine AWp.rk fun K15 hK15 => ?_
          try simp only [go_sem, icast, byteRows_one, byteRows_app, ft0, byteRows_getD y k _ hlt]
          (repeat (with_reducible refine And.intro ?_ ?_; omega))
          refine DW.app rfl rfl rfl rfl (show slI Tryd.prog 33 = some (5, 1, 1) by simp only [go_sem]) rfl rfl (by simp only [go_sem, icast, byteRows_one, byteRows_app, ft0, byteRows_getD y k _ hlt]) (by first | exact .inl rfl | exact .inr rfl) (by (try simp only [go_sem, List.length_append, List.length_cons, List.length_nil, wideR_len, txS_len]); omega) (by (try simp only [go_sem, List.length_append, List.length_cons, List.length_nil, wideR_len, txS_len]); omega) fun t2 ft2 => ?_
          try simp only [freshT] at ft2
          try simp only [go_sem, icast, byteRows_one, byteRows_app, ft0, byteRows_getD y k _ hlt, ft2]
          refine hK15 _ _ ?_
          try clear hK15 K15
          refine blkQ_n (thenQ_n ?_)
          refine hK14 _ _ ?_
          try clear hK14 K14
          refine AWp.mask [true, true, true] rfl ?_
          simp only [go_sem]
          refine AWp.rk fun K16 hK16 => ?_
          try simp only [go_sem, icast, byteRows_one, byteRows_app, ft0, byteRows_getD y k _ hlt, ft2]
          (repeat (with_reducible refine And.intro ?_ ?_; omega))
          refine hK16 _ _ ?_
          try clear hK16 K16
          refine thenQ_n ?_
          refine EndS.mk [true] [false, true, true] [] [] [] [t2, u] rfl ?_ ?_
          · (try simp only [go_sem, icast, byteRows_one, byteRows_app, ft0, byteRows_getD y k _ hlt, ft2]) <;> try rfl
          refine .e ⟨_, ?_, k + 1, t2, rfl, ?_, ?_, ?_, ?_⟩
          · first | omega | (simp; omega) | (grind)
          · (try simp only [go_sem, icast, byteRows_one, byteRows_app, ft0, byteRows_getD y k _ hlt, ft2]) <;> first | exact ⟨rfl⟩ | (constructor; rw [take_get hlt, ← List.append_assoc])
          · (try simp only [go_sem, icast, byteRows_one, byteRows_app, ft0, byteRows_getD y k _ hlt, ft2]) <;> first | exact ⟨rfl⟩ | (constructor; simp; done)
          · omega
          · first | assumption | (simp_all [freshT]; done)
        · skip
          try simp only [decide_eq_true_eq, decide_eq_false_iff_not, Bool.not_eq_true', Bool.not_eq_false', Bool.and_eq_true, Bool.or_eq_true, Bool.and_eq_false_iff, Bool.or_eq_false_iff, Int.not_lt, Int.not_le, beq_iff_eq, beq_eq_false_iff_ne, ne_eq, Bool.not_eq_true, Bool.not_eq_false] at hc1
          refine AWp.exit ?_
          refine thenQ_e (thenQ_e (blkQ_e (thenQ_n ?_)))
          refine hK10 _ _ ?_
          try clear hK10 K10
          refine AWp.mask [false, true] rfl ?_
          simp only [go_sem]
          refine AWp.rs fun K17 hK17 => ?_
          try simp only [go_sem, icast, byteRows_one, byteRows_app, ft0, h2]
          refine hK17 _ _ ?_
          try clear hK17 K17
          refine AWp.ret ?_
          apply endW_r [] [u] [] [] (by (try simp only [go_sem, icast, byteRows_one, byteRows_app, ft0, h2]); rfl)
          · have h2q : (v == u) = false := by simp_all [freshT]
            refine ⟨v, by simp_all [freshT], rfl, by simp [go_sem, h2q]⟩
          · rw [List.take_of_length_le (by omega)]; simp [LeA]
theorem byteRows_cons (a : UInt8) (l : Tx) : [D.int .u8 (a.toNat : Int)] :: byteRows l = byteRows (a :: l) := rfl
theorem tq (n : Int) (h0 : 0 ≤ n) (h : n ≤ 1048576) : (0 ≤ n.tdiv 65536 ∧ n.tdiv 65536 ≤ 1048576) ∧ (0 ≤ n.tdiv 256 ∧ n.tdiv 256 ≤ 1048576) := by
  rw [Int.tdiv_eq_ediv_of_nonneg h0, Int.tdiv_eq_ediv_of_nonneg h0]; omega
set_option maxRecDepth 4000 in
set_option maxHeartbeats 1000000 in
theorem BatchBytes_c (T : Tbl) (hL : LibT T) (u : Int) (l : List Ent) (ok : ∀ x ∈ l, EntOk x) : PC Tryd.prog T 62 [.agg [.d (.int .i64 u), .d (.slc 6 (entsD l))]] (encV u l) := by
  refine ⟨Tryd.call62, PCall.enterS Tryd.func62 rfl Tryd.ntmps62 rfl fun hb => ?_⟩
  simp only [go_sem, Tryd.results62]
  refine AWp.rs fun K1 hK1 => ?_
  try simp only [go_sem, icast, entD, entA, byteRows_one, byteRows_cons, byteRows_app]
  intro b1
  first | intro fb1 | have fb1 := True.intro
  try simp only [freshL] at fb1
  refine hK1 _ _ ?_
  try clear hK1 K1
  refine AWp.rs fun K2 hK2 => ?_
  try simp only [go_sem, icast, entD, entA, byteRows_one, byteRows_cons, byteRows_app, fb1]
  refine DW.pcr rfl rfl rfl rfl (BatchFault_c T hL u l ok) rfl rfl ?_
  try simp only [go_sem, icast, entD, entA, byteRows_one, byteRows_cons, byteRows_app, fb1]
  refine hK2 _ _ ?_
  try clear hK2 K2
  refine AWp.mask [false, true, false, false, true] rfl ?_
  simp only [go_sem]
  refine AWp.seq fun K3 hK3 => ?_
  refine AWp.rs fun K4 hK4 => ?_
  try simp only [go_sem, icast, entD, entA, byteRows_one, byteRows_cons, byteRows_app, fb1]
  refine hK4 _ _ ?_
  try clear hK4 K4
  refine AWp.cond _ rfl (fun hc0 => ?_) (fun hc0 => ?_)
  · skip
    try simp only [decide_eq_true_eq, decide_eq_false_iff_not, Bool.not_eq_true', Bool.not_eq_false', Bool.and_eq_true, Bool.or_eq_true, Bool.and_eq_false_iff, Bool.or_eq_false_iff, Int.not_lt, Int.not_le, beq_iff_eq, beq_eq_false_iff_ne, ne_eq, Bool.not_eq_true, Bool.not_eq_false] at hc0
    have hb1 : ¬ batE u l = 0 := hc0
    refine AWp.rs fun K5 hK5 => ?_
    try simp only [go_sem, icast, entD, entA, byteRows_one, byteRows_cons, byteRows_app, fb1]
    refine hK5 _ _ ?_
    try clear hK5 K5
    refine AWp.mask [false, true, true] rfl ?_
    simp only [go_sem]
    refine AWp.ret ?_
    try simp only [go_sem, icast, entD, entA, byteRows_one, byteRows_cons, byteRows_app, fb1]
    rw [encV, encT, if_neg hc0]; simp [LeA, LeL, LeD, byteRows]
  · skip
    try simp only [decide_eq_true_eq, decide_eq_false_iff_not, Bool.not_eq_true', Bool.not_eq_false', Bool.and_eq_true, Bool.or_eq_true, Bool.and_eq_false_iff, Bool.or_eq_false_iff, Int.not_lt, Int.not_le, beq_iff_eq, beq_eq_false_iff_ne, ne_eq, Bool.not_eq_true, Bool.not_eq_false] at hc0
    obtain ⟨hu0, hu2, hl1, hl10, hen⟩ := batE_0 hc0
    refine AWp.skip ?_
    refine thenQ_n ?_
    refine hK3 _ _ ?_
    try clear hK3 K3
    refine AWp.cut 7 fun K6 hK6 => ?_
    simp only [List.take_succ_cons, List.take_zero, List.drop_succ_cons, List.drop_zero]
    try simp only [go_sem, icast, entD, entA, byteRows_one, byteRows_cons, byteRows_app, fb1]
    refine DW.bsO (he := by first | rfl | kernel_rfl) rfl rfl (show slI Tryd.prog 33 = some (5, 1, 1) by simp only [go_sem]) (by (try simp only [go_sem, icast, entD, entA, byteRows_one, byteRows_cons, byteRows_app, fb1]); rfl) rfl (by decide) fun t1 ft1 => ?_
    try simp only [freshT] at ft1
    try simp only [go_sem, icast, entD, entA, byteRows_one, byteRows_cons, byteRows_app, fb1, ft1]
    refine hK6 _ _ ?_
    try clear hK6 K6
    refine AWp.mask [true, false, true] rfl ?_
    simp only [go_sem]
    refine AWp.seq fun K7 hK7 => ?_
    refine AWp.rs fun K8 hK8 => ?_
    try simp only [go_sem, icast, entD, entA, byteRows_one, byteRows_cons, byteRows_app, fb1, ft1]
    refine hK8 _ _ ?_
    try clear hK8 K8
    refine AWp.block ?_
    refine AWp.loopS [true] [false, true, true] (fun n lc hc => ∃ (k v : Nat) (Z : Tx), n = l.length - k ∧ EqS lc [(5, .own v 1 (byteRows Z)), (6, .d (.int .i64 k))] ∧ EqS hc (⟨[(b1, ⟨2, 1, [[.d (.int .i64 u), .d (.slc 6 (entsD l))]]⟩)], [v]⟩) ∧ (k ≤ l.length) ∧ (Z ++ ensS (l.drop k) = batS u l) ∧ (Z.length ≤ 2 + 2200 * k)) rfl ?_ ?_
    · refine ⟨_, 0, t1, [ub u, ub l.length], rfl, ?_, ?_, ?_, ?_, ?_⟩
      · (try simp only [go_sem, icast, entD, entA, byteRows_one, byteRows_cons, byteRows_app, fb1, ft1]) <;> first | exact ⟨rfl⟩ | (constructor; rfl)
      · (try simp only [go_sem, icast, entD, entA, byteRows_one, byteRows_cons, byteRows_app, fb1, ft1]) <;> first | exact ⟨rfl⟩ | (constructor; simp; done)
      all_goals (first | omega | rfl | (simp; done))
    · rintro _ _ _ ⟨k, v, Z, rfl, ⟨rfl⟩, ⟨rfl⟩, h1, h2, h3⟩
      simp only [go_sem]
      refine AWp.seq fun K9 hK9 => ?_
      refine AWp.rs fun K10 hK10 => ?_
      try simp only [go_sem, icast, entD, entA, byteRows_one, byteRows_cons, byteRows_app, fb1, ft1]
      refine hK10 _ _ ?_
      try clear hK10 K10
      refine AWp.mask [true, true, true, false, false, false, false, true] rfl ?_
      simp only [go_sem]
      refine AWp.cond _ rfl (fun hc1 => ?_) (fun hc1 => ?_)
      · skip
        try simp only [decide_eq_true_eq, decide_eq_false_iff_not, Bool.not_eq_true', Bool.not_eq_false', Bool.and_eq_true, Bool.or_eq_true, Bool.and_eq_false_iff, Bool.or_eq_false_iff, Int.not_lt, Int.not_le, beq_iff_eq, beq_eq_false_iff_ne, ne_eq, Bool.not_eq_true, Bool.not_eq_false] at hc1
        have hlt : k < l.length := by omega
        have hE := hen _ (List.getElem_mem hlt)
        obtain ⟨s1, s2, s3, s4, s5, s6, s7, s8, s9⟩ := ent_small hE
        have hel := enS_len hE
        obtain ⟨⟨q1, q2⟩, q3, q4⟩ := tq _ s4 s5
        refine AWp.skip ?_
        refine thenQ_n ?_
        refine hK9 _ _ ?_
        try clear hK9 K9
        refine AWp.seq fun K11 hK11 => ?_
        refine AWp.block ?_
        refine AWp.rs fun K12 hK12 => ?_
        try simp only [go_sem, icast, entD, entA, byteRows_one, byteRows_cons, byteRows_app, fb1, ft1, entsD_get l k _ hlt]
        (repeat (with_reducible refine And.intro ?_ ?_; omega))
        intro b7
        first | intro fb7 | have fb7 := True.intro
        try simp only [freshL] at fb7
        refine hK12 _ _ ?_
        try clear hK12 K12
        refine AWp.mask [true, true, true, true] rfl ?_
        simp only [go_sem]
        refine AWp.rs fun K13 hK13 => ?_
        try simp only [go_sem, icast, entD, entA, byteRows_one, byteRows_cons, byteRows_app, fb1, ft1, entsD_get l k _ hlt, fb7]
        (repeat (with_reducible refine And.intro ?_ ?_; omega))
        refine DW.app rfl rfl rfl rfl (show slI Tryd.prog 33 = some (5, 1, 1) by simp only [go_sem]) rfl rfl (by simp only [go_sem, icast, entD, entA, byteRows_one, byteRows_cons, byteRows_app, fb1, ft1, entsD_get l k _ hlt, fb7]) (by first | exact .inl rfl | exact .inr rfl) (by (try simp only [go_sem, List.length_append, List.length_cons, List.length_nil, wideR_len, txS_len]); omega) (by (try simp only [go_sem, List.length_append, List.length_cons, List.length_nil, wideR_len, txS_len]); omega) fun t2 ft2 => ?_
        try simp only [freshT] at ft2
        try simp only [go_sem, icast, entD, entA, byteRows_one, byteRows_cons, byteRows_app, fb1, ft1, entsD_get l k _ hlt, fb7, ft2]
        refine hK13 _ _ ?_
        try clear hK13 K13
        refine AWp.mask [true, true, true, true] rfl ?_
        simp only [go_sem]
        refine AWp.rs fun K14 hK14 => ?_
        try simp only [go_sem, icast, entD, entA, byteRows_one, byteRows_cons, byteRows_app, fb1, ft1, entsD_get l k _ hlt, fb7, ft2]
        refine DW.pcr rfl rfl rfl rfl (lengthAnd_c T (l[k]'hlt).box (Nat.le_trans s1 (by decide))) rfl rfl ?_
        try simp only [go_sem, icast, entD, entA, byteRows_one, byteRows_cons, byteRows_app, fb1, ft1, entsD_get l k _ hlt, fb7, ft2]
        refine hK14 _ _ ?_
        try clear hK14 K14
        refine AWp.rs fun K15 hK15 => ?_
        try simp only [go_sem, icast, entD, entA, byteRows_one, byteRows_cons, byteRows_app, fb1, ft1, entsD_get l k _ hlt, fb7, ft2]
        refine DW.pcr rfl rfl rfl rfl (lengthAnd_c T (l[k]'hlt).dest (Nat.le_trans s2 (by decide))) rfl rfl ?_
        try simp only [go_sem, icast, entD, entA, byteRows_one, byteRows_cons, byteRows_app, fb1, ft1, entsD_get l k _ hlt, fb7, ft2]
        refine hK15 _ _ ?_
        try clear hK15 K15
        refine AWp.mask [true, true, true, true, true, true] rfl ?_
        simp only [go_sem]
        refine AWp.rs fun K16 hK16 => ?_
        try simp only [go_sem, icast, entD, entA, byteRows_one, byteRows_cons, byteRows_app, fb1, ft1, entsD_get l k _ hlt, fb7, ft2]
        refine DW.pcr rfl rfl rfl rfl (lengthAnd_c T (l[k]'hlt).text (Nat.le_trans s3 (by decide))) rfl rfl ?_
        try simp only [go_sem, icast, entD, entA, byteRows_one, byteRows_cons, byteRows_app, fb1, ft1, entsD_get l k _ hlt, fb7, ft2]
        refine hK16 _ _ ?_
        try clear hK16 K16
        refine AWp.mask [true, true, true, false, true, true, true] rfl ?_
        simp only [go_sem]
        refine AWp.rs fun K17 hK17 => ?_
        try simp only [go_sem, icast, entD, entA, byteRows_one, byteRows_cons, byteRows_app, fb1, ft1, entsD_get l k _ hlt, fb7, ft2]
        refine DW.acp [] [t2] rfl rfl rfl rfl (by (try simp only [go_sem, icast, entD, entA, byteRows_one, byteRows_cons, byteRows_app, fb1, ft1, entsD_get l k _ hlt, fb7, ft2]); rfl) rfl (joinedO_c T t2 _ (txS (l[k]'hlt).box) _ _ (by trivial) (by (try simp only [List.length_append, List.length_cons, List.length_nil, wideR_len, txS_len]); omega)) ?_
        rintro _ _ ⟨W18, fW18, rfl, rfl⟩
        try simp only [freshT, freshL] at fW18
        try simp only [go_sem, icast, entD, entA, byteRows_one, byteRows_cons, byteRows_app, fb1, ft1, entsD_get l k _ hlt, fb7, ft2, fW18]
        refine hK17 _ _ ?_
        try clear hK17 K17
        refine AWp.mask [true, true, true, false, true, true] rfl ?_
        simp only [go_sem]
        refine AWp.rs fun K19 hK19 => ?_
        try simp only [go_sem, icast, entD, entA, byteRows_one, byteRows_cons, byteRows_app, fb1, ft1, entsD_get l k _ hlt, fb7, ft2, fW18]
        refine DW.acp [] [W18] rfl rfl rfl rfl (by (try simp only [go_sem, icast, entD, entA, byteRows_one, byteRows_cons, byteRows_app, fb1, ft1, entsD_get l k _ hlt, fb7, ft2, fW18]); rfl) rfl (joinedO_c T W18 _ (txS (l[k]'hlt).dest) _ _ (by trivial) (by (try simp only [List.length_append, List.length_cons, List.length_nil, wideR_len, txS_len]); omega)) ?_
        rintro _ _ ⟨W20, fW20, rfl, rfl⟩
        try simp only [freshT, freshL] at fW20
        try simp only [go_sem, icast, entD, entA, byteRows_one, byteRows_cons, byteRows_app, fb1, ft1, entsD_get l k _ hlt, fb7, ft2, fW18, fW20]
        refine hK19 _ _ ?_
        try clear hK19 K19
        refine AWp.mask [true, true, true, false, true] rfl ?_
        simp only [go_sem]
        refine AWp.rk fun K21 hK21 => ?_
        try simp only [go_sem, icast, entD, entA, byteRows_one, byteRows_cons, byteRows_app, fb1, ft1, entsD_get l k _ hlt, fb7, ft2, fW18, fW20]
        refine DW.acp [] [W20] rfl rfl rfl rfl (by (try simp only [go_sem, icast, entD, entA, byteRows_one, byteRows_cons, byteRows_app, fb1, ft1, entsD_get l k _ hlt, fb7, ft2, fW18, fW20]); rfl) rfl (joinedO_c T W20 _ (txS (l[k]'hlt).text) _ _ (by trivial) (by (try simp only [List.length_append, List.length_cons, List.length_nil, wideR_len, txS_len]); omega)) ?_
        rintro _ _ ⟨W22, fW22, rfl, rfl⟩
        try simp only [freshT, freshL] at fW22
        try simp only [go_sem, icast, entD, entA, byteRows_one, byteRows_cons, byteRows_app, fb1, ft1, entsD_get l k _ hlt, fb7, ft2, fW18, fW20, fW22]
        refine hK21 _ _ ?_
        try clear hK21 K21
        refine blkQ_n (thenQ_n ?_)
        refine hK11 _ _ ?_
        try clear hK11 K11
        refine AWp.mask [true, true, true] rfl ?_
        simp only [go_sem]
        refine AWp.rk fun K23 hK23 => ?_
        try simp only [go_sem, icast, entD, entA, byteRows_one, byteRows_cons, byteRows_app, fb1, ft1, entsD_get l k _ hlt, fb7, ft2, fW18, fW20, fW22]
        (repeat (with_reducible refine And.intro ?_ ?_; omega))
        refine hK23 _ _ ?_
        try clear hK23 K23
        refine thenQ_n ?_
        refine EndS.mk [true] [false, true, true] [b7] [] [b1] [W22] rfl ?_ ?_
        · (try simp only [go_sem, icast, entD, entA, byteRows_one, byteRows_cons, byteRows_app, fb1, ft1, entsD_get l k _ hlt, fb7, ft2, fW18, fW20, fW22]) <;> try rfl
        refine .e ⟨_, ?_, k + 1, W22, (Z ++ [ub (l[k]'hlt).kind, ub (l[k]'hlt).flags, ub ((l[k]'hlt).uid.tdiv 65536), ub (((l[k]'hlt).uid.tdiv 256).tmod 256), ub ((l[k]'hlt).uid.tmod 256)] ++ txS (l[k]'hlt).box ++ txS (l[k]'hlt).dest ++ txS (l[k]'hlt).text), rfl, ?_, ?_, ?_, ?_, ?_⟩
        · first | omega | (simp; omega) | (grind)
        · (try simp only [go_sem, icast, entD, entA, byteRows_one, byteRows_cons, byteRows_app, fb1, ft1, entsD_get l k _ hlt, fb7, ft2, fW18, fW20, fW22]) <;> first | exact ⟨rfl⟩ | (constructor; simp; done)
        · (try simp only [go_sem, icast, entD, entA, byteRows_one, byteRows_cons, byteRows_app, fb1, ft1, entsD_get l k _ hlt, fb7, ft2, fW18, fW20, fW22]) <;> first | exact ⟨rfl⟩ | (constructor; simp; done)
        all_goals first | omega | (rw [← h2, ensS_drop hlt, enS, headS, wide3 _ s4]; simp [partS]; done) | (simp [enS, headS, partS, wideR_len] at hel ⊢; omega)
      · skip
        try simp only [decide_eq_true_eq, decide_eq_false_iff_not, Bool.not_eq_true', Bool.not_eq_false', Bool.and_eq_true, Bool.or_eq_true, Bool.and_eq_false_iff, Bool.or_eq_false_iff, Int.not_lt, Int.not_le, beq_iff_eq, beq_eq_false_iff_ne, ne_eq, Bool.not_eq_true, Bool.not_eq_false] at hc1
        refine AWp.exit ?_
        refine thenQ_e (thenQ_e (blkQ_e (thenQ_n ?_)))
        refine hK7 _ _ ?_
        try clear hK7 K7
        refine AWp.rs fun K24 hK24 => ?_
        try simp only [go_sem, icast, entD, entA, byteRows_one, byteRows_cons, byteRows_app, fb1, ft1]
        refine hK24 _ _ ?_
        try clear hK24 K24
        refine AWp.mask [false, true, true] rfl ?_
        simp only [go_sem]
        refine AWp.ret ?_
        try simp only [go_sem, icast, entD, entA, byteRows_one, byteRows_cons, byteRows_app, fb1, ft1]
        have hk : Z = batS u l := by rw [← h2, ensS_end (by omega), List.append_nil]
        rw [encV, encT, if_pos hc0, hk]; simp [LeA, LeL, LeD]; omega
end Go.Proofs.YthhfbolhlbgbgaaDoor

namespace Go.Proofs.YthhfbolhlbgbgaaDoor
set_option linter.unusedSimpArgs false
set_option linter.unusedVariables false
set_option maxRecDepth 4000 in
set_option maxHeartbeats 1000000 in
theorem sameEntries_c (T : Tbl) (l : List Ent) (hl : l.length ≤ 10000000000000) : PC Tryd.prog T 31 [.d (.slc 6 (entsD l)), .d (.slc 6 (entsD l))] (.d (.bool true)) := by
  refine ⟨Tryd.call31, PCall.enterS Tryd.func31 rfl Tryd.ntmps31 rfl fun hb => ?_⟩
  simp only [go_sem, Tryd.results31]
  refine AWp.rs fun K1 hK1 => ?_
  try simp only [go_sem, icast, entD, entA]
  refine hK1 _ _ ?_
  try clear hK1 K1
  refine AWp.seq fun K2 hK2 => ?_
  refine AWp.rs fun K3 hK3 => ?_
  try simp only [go_sem, icast, entD, entA]
  refine hK3 _ _ ?_
  try clear hK3 K3
  refine AWp.mask [true, true, false, false, false, false, false, true] rfl ?_
  simp only [go_sem]
  refine AWp.cond _ rfl (fun hc0 => ?_) (fun hc0 => ?_)
  · skip
    exact absurd hc0 (by simp)
  · skip
    try simp only [decide_eq_true_eq, decide_eq_false_iff_not, Bool.not_eq_true', Bool.not_eq_false', Bool.and_eq_true, Bool.or_eq_true, Bool.and_eq_false_iff, Bool.or_eq_false_iff, Int.not_lt, Int.not_le, beq_iff_eq, beq_eq_false_iff_ne, ne_eq, Bool.not_eq_true, Bool.not_eq_false] at hc0
    refine AWp.skip ?_
    refine thenQ_n ?_
    refine hK2 _ _ ?_
    try clear hK2 K2
    refine AWp.seq fun K4 hK4 => ?_
    refine AWp.rs fun K5 hK5 => ?_
    try simp only [go_sem, icast, entD, entA]
    refine hK5 _ _ ?_
    try clear hK5 K5
    refine AWp.block ?_
    refine AWp.mask [true, true, true] rfl ?_
    simp only [go_sem]
    refine AWp.loopS [true, true] [false, false, true] (fun n lc hc => ∃ (k : Nat), n = l.length - k ∧ EqS lc [(5, .d (.int .i64 k))] ∧ EqS hc (⟨[], []⟩) ∧ (k ≤ l.length)) rfl ?_ ?_
    · refine ⟨_, 0, rfl, ?_, ?_, ?_⟩
      · (try simp only [go_sem, icast, entD, entA]) <;> first | exact ⟨rfl⟩ | (constructor; simp; done)
      · (try simp only [go_sem, icast, entD, entA]) <;> first | exact ⟨rfl⟩ | (constructor; simp; done)
      all_goals (first | omega | rfl | (simp; done) | (simp; omega) | assumption)
    · rintro _ _ _ ⟨k, rfl, ⟨rfl⟩, ⟨rfl⟩, h1⟩
      simp only [go_sem]
      refine AWp.seq fun K6 hK6 => ?_
      refine AWp.rs fun K7 hK7 => ?_
      try simp only [go_sem, icast, entD, entA]
      refine hK7 _ _ ?_
      try clear hK7 K7
      refine AWp.cond _ rfl (fun hc1 => ?_) (fun hc1 => ?_)
      · skip
        try simp only [decide_eq_true_eq, decide_eq_false_iff_not, Bool.not_eq_true', Bool.not_eq_false', Bool.and_eq_true, Bool.or_eq_true, Bool.and_eq_false_iff, Bool.or_eq_false_iff, Int.not_lt, Int.not_le, beq_iff_eq, beq_eq_false_iff_ne, ne_eq, Bool.not_eq_true, Bool.not_eq_false] at hc1
        have hlt : k < l.length := by omega
        refine AWp.skip ?_
        refine thenQ_n ?_
        refine hK6 _ _ ?_
        try clear hK6 K6
        refine AWp.mask [true, true, true] rfl ?_
        simp only [go_sem]
        refine AWp.seq fun K8 hK8 => ?_
        refine AWp.block ?_
        refine AWp.ds true [0, 1, 2, 3, 4, 5, 6, 7, 8] rfl (by kernel_rfl) fun K9 hK9 => ?_
        try simp only [go_sem, icast, entD, entA, entsD_get l k _ hlt]
        (repeat (with_reducible refine And.intro ?_ ?_; omega))
        refine hK9 _ _ ?_
        try clear hK9 K9
        refine AWp.mask [true, true, true, false, false, false, false, false, false, false, false, true] rfl ?_
        simp only [go_sem]
        refine AWp.cond _ rfl (fun hc2 => ?_) (fun hc2 => ?_)
        · skip
          exact absurd hc2 (by simp)
        · skip
          try simp only [decide_eq_true_eq, decide_eq_false_iff_not, Bool.not_eq_true', Bool.not_eq_false', Bool.and_eq_true, Bool.or_eq_true, Bool.and_eq_false_iff, Bool.or_eq_false_iff, Int.not_lt, Int.not_le, beq_iff_eq, beq_eq_false_iff_ne, ne_eq, Bool.not_eq_true, Bool.not_eq_false] at hc2
          refine AWp.skip ?_
          refine blkQ_n (thenQ_n ?_)
          refine hK8 _ _ ?_
          try clear hK8 K8
          refine AWp.rk fun K10 hK10 => ?_
          try simp only [go_sem, icast, entD, entA, entsD_get l k _ hlt]
          (repeat (with_reducible refine And.intro ?_ ?_; omega))
          refine hK10 _ _ ?_
          try clear hK10 K10
          refine thenQ_n ?_
          refine EndS.mkr [true, true] [false, false, true] rfl ?_ ?_
          · (try simp only [go_sem, icast, entD, entA, entsD_get l k _ hlt]) <;> try rfl
          refine .e ⟨_, ?_, k + 1, rfl, ?_, ?_, ?_⟩
          · first | omega | (simp; omega) | (grind)
          · (try simp only [go_sem, icast, entD, entA, entsD_get l k _ hlt]) <;> first | exact ⟨rfl⟩ | (constructor; simp; done)
          · (try simp only [go_sem, icast, entD, entA, entsD_get l k _ hlt]) <;> first | exact ⟨rfl⟩ | (constructor; simp; done)
          all_goals (first | omega | assumption | grind)
      · skip
        try simp only [decide_eq_true_eq, decide_eq_false_iff_not, Bool.not_eq_true', Bool.not_eq_false', Bool.and_eq_true, Bool.or_eq_true, Bool.and_eq_false_iff, Bool.or_eq_false_iff, Int.not_lt, Int.not_le, beq_iff_eq, beq_eq_false_iff_ne, ne_eq, Bool.not_eq_true, Bool.not_eq_false] at hc1
        refine AWp.exit ?_
        refine thenQ_e (thenQ_e (blkQ_e (thenQ_n ?_)))
        refine hK4 _ _ ?_
        try clear hK4 K4
        refine AWp.mask [] rfl ?_
        simp only [go_sem]
        refine AWp.rs fun K11 hK11 => ?_
        try simp only [go_sem, icast, entD, entA]
        refine hK11 _ _ ?_
        try clear hK11 K11
        refine AWp.ret ?_
        try simp only [go_sem, icast, entD, entA]
        all_goals done
set_option maxRecDepth 4000 in
set_option maxHeartbeats 1000000 in
theorem sameBatch_c (T : Tbl) (u : Int) (l : List Ent) (hl : l.length ≤ 10000000000000) : PC Tryd.prog T 51 [.agg [.d (.int .i64 u), .d (.slc 6 (entsD l))], .agg [.d (.int .i64 u), .d (.slc 6 (entsD l))]] (.d (.bool true)) := by
  refine ⟨Tryd.call51, PCall.enterS Tryd.func51 rfl Tryd.ntmps51 rfl fun hb => ?_⟩
  simp only [go_sem, Tryd.results51]
  refine AWp.rs fun K1 hK1 => ?_
  try simp only [go_sem, decide_true]
  intro b1
  first | intro fb1 | have fb1 := True.intro
  try simp only [freshL] at fb1
  intro b2
  first | intro fb2 | have fb2 := True.intro
  try simp only [freshL] at fb2
  refine hK1 _ _ ?_
  try clear hK1 K1
  refine AWp.rs fun K2 hK2 => ?_
  try simp only [go_sem, decide_true, fb1, fb2]
  refine DW.pcgr rfl rfl rfl rfl rfl (fun hg => sameEntries_c T l hl) (fun hg => by (try simp only [go_sem, decide_true, fb1, fb2]) <;> first | exact hg | (exfalso; simp at hg; done) | (simpa using hg) | grind) rfl rfl ?_
  try simp only [go_sem, decide_true, fb1, fb2]
  refine hK2 _ _ ?_
  try clear hK2 K2
  refine AWp.mask [false, false, false, false, true] rfl ?_
  simp only [go_sem]
  refine AWp.ret ?_
  try simp only [go_sem, decide_true, fb1, fb2]
  try simp [LeA, LeL, LeD]
end Go.Proofs.YthhfbolhlbgbgaaDoor

namespace Go.Proofs.YthhfbolhlbgbgaaDoor
set_option linter.unusedSimpArgs false
set_option linter.unusedVariables false
/-- the reader of batches: bytes left, and whether it ran short -/
def bob (b : Nat) (d : Tx) (bad : Bool) : Nat × Ob := (b, ⟨2, 1, [[.d (.slc 1 (byteRows d)), .d (.bool bad)]]⟩)
attribute [go_sem] bob
def takeT (d : Tx) (bad : Bool) (n : Nat) : Tx := if bad = true ∨ d.length < n then [] else d.take n
def takeD (d : Tx) (bad : Bool) (n : Nat) : Tx := if bad = true ∨ d.length < n then d else d.drop n
def takeB (d : Tx) (bad : Bool) (n : Nat) : Bool := bad || decide (d.length < n)
theorem take_no {d : Tx} {bad : Bool} {n : Nat} (h : bad = true ∨ d.length < n) : takeT d bad n = [] ∧ takeD d bad n = d ∧ takeB d bad n = true := by
  refine ⟨if_pos h, if_pos h, ?_⟩
  rcases h with h | h <;> simp [takeB, h]
theorem take_yes {d : Tx} {n : Nat} (h : n ≤ d.length) : takeT d false n = d.take n ∧ takeD d false n = d.drop n ∧ takeB d false n = false := by
  have : ¬ (false = true ∨ d.length < n) := by simp; omega
  refine ⟨if_neg this, if_neg this, ?_⟩
  simp [takeB]; omega
theorem byteRows_take (d : Tx) (n : Nat) : (byteRows d).take n = byteRows (d.take n) := by simp [byteRows]
theorem byteRows_drop (d : Tx) (n : Nat) : (byteRows d).drop n = byteRows (d.drop n) := by simp [byteRows]
theorem toNat_nat (n : Nat) : (n : Int).toNat = n := rfl
set_option maxRecDepth 4000 in
set_option maxHeartbeats 1000000 in
theorem take_c (T : Tbl) (b n : Nat) (d : Tx) (bad : Bool) (F : List (Nat × Ob)) (L : List Nat) (hd : d.length ≤ 100000) (hn : n ≤ 100000) : AC Tryd.prog T 64 [.ptr b 2 0 0, .d (.int .i64 n)] (⟨bob b d bad :: F, L⟩) (fun x h => x = .ret (.d (.slc 1 (byteRows (takeT d bad n)))) ∧ h = ⟨bob b (takeD d bad n) (takeB d bad n) :: F, L⟩) := by
  refine ⟨Tryd.call64, ACalls.enterS Tryd.func64 rfl Tryd.ntmps64 rfl fun hb => ?_⟩
  simp only [go_sem, Tryd.results64]
  refine AWp.rs fun K1 hK1 => ?_
  try simp only [go_sem, bob, byteRows_take, byteRows_drop, icast, toNat_nat, byteRows_len]
  refine hK1 _ _ ?_
  try clear hK1 K1
  refine AWp.seq fun K2 hK2 => ?_
  rcases (show bad = false ∨ bad = true by cases bad <;> simp) with rfl | rfl
  · skip
    refine AWp.rs fun K3 hK3 => ?_
    try simp only [go_sem, bob, byteRows_take, byteRows_drop, icast, toNat_nat, byteRows_len]
    refine hK3 _ _ ?_
    try clear hK3 K3
    refine AWp.mask [true, true, false, false, false, false, false, false, false, false, false, false, false, false, false, true] rfl ?_
    simp only [go_sem]
    refine AWp.cond _ rfl (fun hc0 => ?_) (fun hc0 => ?_)
    · skip
      try simp only [decide_eq_true_eq, decide_eq_false_iff_not, Bool.not_eq_true', Bool.not_eq_false', Bool.and_eq_true, Bool.or_eq_true, Bool.and_eq_false_iff, Bool.or_eq_false_iff, Int.not_lt, Int.not_le, beq_iff_eq, beq_eq_false_iff_ne, ne_eq, Bool.not_eq_true, Bool.not_eq_false] at hc0
      refine AWp.rs fun K4 hK4 => ?_
      try simp only [go_sem, bob, byteRows_take, byteRows_drop, icast, toNat_nat, byteRows_len]
      refine hK4 _ _ ?_
      try clear hK4 K4
      refine AWp.mask [] rfl ?_
      simp only [go_sem]
      refine AWp.rs fun K5 hK5 => ?_
      try simp only [go_sem, bob, byteRows_take, byteRows_drop, icast, toNat_nat, byteRows_len]
      refine hK5 _ _ ?_
      try clear hK5 K5
      refine AWp.ret ?_
      try simp only [thenQ, blkQ]
      apply endW_r [] [] [b] [] (by (try simp only [go_sem, bob, byteRows_take, byteRows_drop, icast, toNat_nat, byteRows_len]); rfl)
      · obtain ⟨e1, e2, e3⟩ := take_no (d := d) (n := n) (bad := false) (by first | exact .inl rfl | exact .inr (by omega))
        rw [e1, e2, e3]
        refine ⟨rfl, ?_⟩
        simp [go_sem, bob]
      · simp [LeA, LeL, LeD, byteRows]
    · skip
      try simp only [decide_eq_true_eq, decide_eq_false_iff_not, Bool.not_eq_true', Bool.not_eq_false', Bool.and_eq_true, Bool.or_eq_true, Bool.and_eq_false_iff, Bool.or_eq_false_iff, Int.not_lt, Int.not_le, beq_iff_eq, beq_eq_false_iff_ne, ne_eq, Bool.not_eq_true, Bool.not_eq_false] at hc0
      refine AWp.skip ?_
      refine thenQ_n ?_
      refine hK2 _ _ ?_
      try clear hK2 K2
      refine AWp.rs fun K6 hK6 => ?_
      try simp only [go_sem, bob, byteRows_take, byteRows_drop, icast, toNat_nat, byteRows_len]
      (repeat (with_reducible refine And.intro ?_ ?_; omega))
      refine hK6 _ _ ?_
      try clear hK6 K6
      refine AWp.mask [true, true, true] rfl ?_
      simp only [go_sem]
      refine AWp.rs fun K7 hK7 => ?_
      try simp only [go_sem, bob, byteRows_take, byteRows_drop, icast, toNat_nat, byteRows_len]
      (repeat (with_reducible refine And.intro ?_ ?_; omega))
      refine hK7 _ _ ?_
      try clear hK7 K7
      refine AWp.mask [false, false, true] rfl ?_
      simp only [go_sem]
      refine AWp.rs fun K8 hK8 => ?_
      try simp only [go_sem, bob, byteRows_take, byteRows_drop, icast, toNat_nat, byteRows_len]
      refine hK8 _ _ ?_
      try clear hK8 K8
      refine AWp.ret ?_
      apply endW_r [] [] [b] [] (by (try simp only [go_sem, bob, byteRows_take, byteRows_drop, icast, toNat_nat, byteRows_len]); rfl)
      · obtain ⟨e1, e2, e3⟩ := take_yes (d := d) (n := n) (by omega)
        rw [e1, e2, e3]
        refine ⟨rfl, ?_⟩
        simp [go_sem, bob]
      · simp [LeA, LeL, LeD]
  · skip
    refine AWp.rs fun K3 hK3 => ?_
    try simp only [go_sem, bob, byteRows_take, byteRows_drop, icast, toNat_nat, byteRows_len]
    (repeat (with_reducible refine And.intro ?_ ?_; decide))
    refine hK3 _ _ ?_
    try clear hK3 K3
    refine AWp.mask [true, true, false, false, false, false, false, false, false, false, false, false, false, false, false, true] rfl ?_
    simp only [go_sem]
    refine AWp.cond _ rfl (fun hc0 => ?_) (fun hc0 => ?_)
    · skip
      try simp only [decide_eq_true_eq, decide_eq_false_iff_not, Bool.not_eq_true', Bool.not_eq_false', Bool.and_eq_true, Bool.or_eq_true, Bool.and_eq_false_iff, Bool.or_eq_false_iff, Int.not_lt, Int.not_le, beq_iff_eq, beq_eq_false_iff_ne, ne_eq, Bool.not_eq_true, Bool.not_eq_false] at hc0
      refine AWp.rs fun K9 hK9 => ?_
      try simp only [go_sem, bob, byteRows_take, byteRows_drop, icast, toNat_nat, byteRows_len]
      refine hK9 _ _ ?_
      try clear hK9 K9
      refine AWp.mask [] rfl ?_
      simp only [go_sem]
      refine AWp.rs fun K10 hK10 => ?_
      try simp only [go_sem, bob, byteRows_take, byteRows_drop, icast, toNat_nat, byteRows_len]
      refine hK10 _ _ ?_
      try clear hK10 K10
      refine AWp.ret ?_
      try simp only [thenQ, blkQ]
      apply endW_r [] [] [b] [] (by (try simp only [go_sem, bob, byteRows_take, byteRows_drop, icast, toNat_nat, byteRows_len]); rfl)
      · obtain ⟨e1, e2, e3⟩ := take_no (d := d) (n := n) (bad := true) (by first | exact .inl rfl | exact .inr (by omega))
        rw [e1, e2, e3]
        refine ⟨rfl, ?_⟩
        simp [go_sem, bob]
      · simp [LeA, LeL, LeD, byteRows]
    · skip
      exact absurd hc0 (by simp)
theorem takeT_len (d : Tx) (bad : Bool) (n : Nat) : (takeT d bad n).length ≤ n := by unfold takeT; split <;> simp <;> omega
theorem shl8 : (2 : Int) ^ (min (Int.toNat 8) 64) = 256 := rfl
def numF (a : Nat) (c : UInt8) : Nat := a * 256 + c.toNat
def numT (x : Tx) : Nat := x.foldl numF 0
theorem numT_lt (x : Tx) : numT x < 256 ^ x.length := by
  have key : ∀ (x : Tx) (a k : Nat), a < 256 ^ k → x.foldl numF a < 256 ^ (k + x.length) := by
    intro x
    induction x with
    | nil => intro a k h; simpa using h
    | cons c x ih =>
      intro a k h
      have hc : c.toNat < 256 := c.toNat_lt
      have : numF a c < 256 ^ (k + 1) := by unfold numF; rw [Nat.pow_succ]; omega
      have := ih (numF a c) (k + 1) this
      rw [List.foldl_cons, List.length_cons, show k + (x.length + 1) = k + 1 + x.length by omega]
      exact this
  have := key x 0 0 (by decide)
  simpa [numT] using this
theorem num2_lt (d : Tx) (bad : Bool) : numT (takeT d bad 2) < 65536 := by
  have h1 := numT_lt (takeT d bad 2)
  have h2 : 256 ^ (takeT d bad 2).length ≤ 256 ^ 2 := Nat.pow_le_pow_right (by decide) (takeT_len d bad 2)
  omega
theorem num_step {x : Tx} {k : Nat} (h : k < x.length) : numT (x.take (k + 1)) = numT (x.take k) * 256 + (x.getD k 0).toNat := by
  rw [take_get h, numT, List.foldl_append]; rfl
theorem num_bound {x : Tx} {k : Nat} (h : k < x.length) (hx : x.length ≤ 3) : numT (x.take k) < 65536 := by
  have h1 := numT_lt (x.take k)
  have h2 : (x.take k).length ≤ 2 := by simp; omega
  have : 256 ^ (x.take k).length ≤ 256 ^ 2 := Nat.pow_le_pow_right (by decide) h2
  omega
theorem or_num (a : Nat) (c : UInt8) (h : a < 65536) : IntKind.i64.wrap (BitVec.ofInt 64 ((a : Int) * 256) ||| BitVec.ofInt 64 (c.toNat : Int)).toNat = ((a * 256 + c.toNat : Nat) : Int) := by
  have hc : c.toNat < 2 ^ 8 := c.toNat_lt
  have e1 : (BitVec.ofInt 64 ((a : Int) * 256)).toNat = a * 256 := by
    rw [show ((a : Int) * 256) = ((a * 256 : Nat) : Int) by omega, BitVec.ofInt_natCast, BitVec.toNat_ofNat]
    exact Nat.mod_eq_of_lt (by show a * 256 < 2 ^ 64; omega)
  have e2 : (BitVec.ofInt 64 (c.toNat : Int)).toNat = c.toNat := by
    rw [BitVec.ofInt_natCast, BitVec.toNat_ofNat]
    exact Nat.mod_eq_of_lt (by show c.toNat < 2 ^ 64; omega)
  have e3 : (a * 256) ||| c.toNat = a * 256 + c.toNat := by
    rw [show a * 256 = a <<< 8 by rw [Nat.shiftLeft_eq], ← Nat.shiftLeft_add_eq_or_of_lt hc]
  rw [BitVec.toNat_or, e1, e2, e3]
  have hr : a * 256 + c.toNat < 2 ^ 63 := by omega
  exact inR_wrap (by show _ ∧ _; constructor <;> omega)
set_option maxRecDepth 4000 in
set_option maxHeartbeats 1000000 in
theorem number_c (T : Tbl) (b m : Nat) (d : Tx) (bad : Bool) (F : List (Nat × Ob)) (L : List Nat) (hd : d.length ≤ 100000) (hm : m ≤ 3) : AC Tryd.prog T 65 [.ptr b 2 0 0, .d (.int .i64 m)] (⟨bob b d bad :: F, L⟩) (fun x h => x = .ret (.d (.int .i64 (numT (takeT d bad m) : Nat))) ∧ h = ⟨bob b (takeD d bad m) (takeB d bad m) :: F, L⟩) := by
  refine ⟨Tryd.call65, ACalls.enterS Tryd.func65 rfl Tryd.ntmps65 rfl fun hb => ?_⟩
  simp only [go_sem, Tryd.results65]
  refine AWp.rs fun K1 hK1 => ?_
  try simp only [go_sem, bob, icast, byteRows_len, shl8]
  refine hK1 _ _ ?_
  try clear hK1 K1
  refine AWp.rs fun K2 hK2 => ?_
  try simp only [go_sem, bob, icast, byteRows_len, shl8]
  refine hK2 _ _ ?_
  try clear hK2 K2
  refine AWp.seq fun K3 hK3 => ?_
  refine AWp.rs fun K4 hK4 => ?_
  try simp only [go_sem, bob, icast, byteRows_len, shl8]
  refine DW.acp [b] [] rfl rfl rfl rfl (by (try simp only [go_sem, bob, icast, byteRows_len, shl8]); rfl) rfl (take_c T b m d bad _ _ hd (by omega)) ?_
  rintro _ _ ⟨rfl, rfl⟩
  try simp only [go_sem, bob, icast, byteRows_len, shl8]
  refine hK4 _ _ ?_
  try clear hK4 K4
  refine AWp.mask [false, false, false, true, false, false, true, true, true] rfl ?_
  simp only [go_sem]
  refine AWp.block ?_
  refine AWp.loopS [false, true, true] [true, false, false, true] (fun n lc hc => ∃ (k : Nat), n = (takeT d bad m).length - k ∧ EqS lc [(5, .d (.int .i64 (numT ((takeT d bad m).take k) : Nat))), (12, .d (.int .i64 k))] ∧ EqS hc (⟨bob b (takeD d bad m) (takeB d bad m) :: F, L⟩) ∧ (k ≤ (takeT d bad m).length)) rfl ?_ ?_
  · refine ⟨_, 0, rfl, ?_, ?_, ?_⟩
    · (try simp only [go_sem, bob, icast, byteRows_len, shl8]) <;> first | exact ⟨rfl⟩ | (constructor; rfl)
    · (try simp only [go_sem, bob, icast, byteRows_len, shl8]) <;> first | exact ⟨rfl⟩ | (constructor; simp; done)
    all_goals (first | omega | rfl | (simp; done) | (simp; omega) | assumption)
  · rintro _ _ _ ⟨k, rfl, ⟨rfl⟩, ⟨rfl⟩, h1⟩
    simp only [go_sem]
    refine AWp.rs fun K5 hK5 => ?_
    try simp only [go_sem, bob, icast, byteRows_len, shl8]
    refine hK5 _ _ ?_
    try clear hK5 K5
    refine AWp.seq fun K6 hK6 => ?_
    refine AWp.cond _ rfl (fun hc0 => ?_) (fun hc0 => ?_)
    · skip
      try simp only [decide_eq_true_eq, decide_eq_false_iff_not, Bool.not_eq_true', Bool.not_eq_false', Bool.and_eq_true, Bool.or_eq_true, Bool.and_eq_false_iff, Bool.or_eq_false_iff, Int.not_lt, Int.not_le, beq_iff_eq, beq_eq_false_iff_ne, ne_eq, Bool.not_eq_true, Bool.not_eq_false] at hc0
      have hX3 : (takeT d bad m).length ≤ 3 := Nat.le_trans (takeT_len d bad m) hm
      have hlt : k < (takeT d bad m).length := by omega
      have hnb := num_bound hlt hX3
      refine AWp.skip ?_
      refine thenQ_n ?_
      refine hK6 _ _ ?_
      try clear hK6 K6
      refine AWp.seq fun K7 hK7 => ?_
      refine AWp.block ?_
      refine AWp.rs fun K8 hK8 => ?_
      try simp only [go_sem, bob, icast, byteRows_len, shl8, byteRows_getD (takeT d bad m) k _ hlt, or_num _ _ hnb]
      (repeat (with_reducible refine And.intro ?_ ?_; omega))
      refine hK8 _ _ ?_
      try clear hK8 K8
      refine AWp.rk fun K9 hK9 => ?_
      try simp only [go_sem, bob, icast, byteRows_len, shl8, byteRows_getD (takeT d bad m) k _ hlt, or_num _ _ hnb]
      (repeat (with_reducible refine And.intro ?_ ?_; omega))
      refine hK9 _ _ ?_
      try clear hK9 K9
      refine blkQ_n (thenQ_n ?_)
      refine hK7 _ _ ?_
      try clear hK7 K7
      refine AWp.mask [true, false, true, true, true] rfl ?_
      simp only [go_sem]
      refine AWp.rk fun K10 hK10 => ?_
      try simp only [go_sem, bob, icast, byteRows_len, shl8, byteRows_getD (takeT d bad m) k _ hlt, or_num _ _ hnb]
      (repeat (with_reducible refine And.intro ?_ ?_; omega))
      refine hK10 _ _ ?_
      try clear hK10 K10
      refine thenQ_n ?_
      refine EndS.mk [false, true, true] [true, false, false, true] [] [] [b] [] rfl ?_ ?_
      · (try simp only [go_sem, bob, icast, byteRows_len, shl8, byteRows_getD (takeT d bad m) k _ hlt, or_num _ _ hnb]) <;> try rfl
      refine .e ⟨_, ?_, k + 1, rfl, ?_, ?_, ?_⟩
      · first | omega | (simp; omega) | (grind)
      · (try simp only [go_sem, bob, icast, byteRows_len, shl8, byteRows_getD (takeT d bad m) k _ hlt, or_num _ _ hnb]) <;> first | exact ⟨rfl⟩ | (constructor; rw [num_step hlt, ← or_num _ _ hnb]; rfl)
      · (try simp only [go_sem, bob, icast, byteRows_len, shl8, byteRows_getD (takeT d bad m) k _ hlt, or_num _ _ hnb]) <;> first | exact ⟨rfl⟩ | (constructor; simp; done)
      all_goals (first | omega | assumption | grind)
    · skip
      try simp only [decide_eq_true_eq, decide_eq_false_iff_not, Bool.not_eq_true', Bool.not_eq_false', Bool.and_eq_true, Bool.or_eq_true, Bool.and_eq_false_iff, Bool.or_eq_false_iff, Int.not_lt, Int.not_le, beq_iff_eq, beq_eq_false_iff_ne, ne_eq, Bool.not_eq_true, Bool.not_eq_false] at hc0
      refine AWp.exit ?_
      refine thenQ_e (thenQ_e (blkQ_e (thenQ_n ?_)))
      refine hK3 _ _ ?_
      try clear hK3 K3
      refine AWp.mask [true] rfl ?_
      simp only [go_sem]
      refine AWp.rs fun K11 hK11 => ?_
      try simp only [go_sem, bob, icast, byteRows_len, shl8]
      refine hK11 _ _ ?_
      try clear hK11 K11
      refine AWp.ret ?_
      apply endW_r [] [] [b] [] (by (try simp only [go_sem, bob, icast, byteRows_len, shl8]); rfl)
      · refine ⟨rfl, by simp [go_sem, bob]⟩
      · rw [List.take_of_length_le (by omega)]; simp [LeA, LeD]
def textT (d : Tx) (bad : Bool) : Tx := takeT (takeD d bad 2) (takeB d bad 2) (numT (takeT d bad 2))
def textD (d : Tx) (bad : Bool) : Tx := takeD (takeD d bad 2) (takeB d bad 2) (numT (takeT d bad 2))
def textB (d : Tx) (bad : Bool) : Bool := takeB (takeD d bad 2) (takeB d bad 2) (numT (takeT d bad 2))
theorem takeD_len (d : Tx) (bad : Bool) (n : Nat) : (takeD d bad n).length ≤ d.length := by unfold takeD; split <;> simp
theorem textD_len (d : Tx) (bad : Bool) : (textD d bad).length ≤ d.length := Nat.le_trans (takeD_len _ _ _) (takeD_len _ _ _)
theorem textT_len (d : Tx) (bad : Bool) : (textT d bad).length ≤ 100000 := by
  have h1 := takeT_len (takeD d bad 2) (takeB d bad 2) (numT (takeT d bad 2))
  have h2 := num2_lt d bad
  unfold textT; omega
/-- a text with its length ahead, and what is left -/
def pieceS (r : Tx) : Option (Tx × Tx) :=
  if r.length < 2 then none
  else if (r.drop 2).length < numT (r.take 2) then none
  else some ((r.drop 2).take (numT (r.take 2)), (r.drop 2).drop (numT (r.take 2)))
theorem takeB_true (d : Tx) (n : Nat) : takeB d true n = true := rfl
theorem textB_true (d : Tx) : textB d true = true := rfl
theorem text_none {d : Tx} (h : pieceS d = none) : textB d false = true := by
  unfold pieceS at h
  unfold textB
  split at h
  · rename_i h1
    rw [(take_no (.inr h1)).2.2]; rfl
  · rename_i h1
    obtain ⟨e1, e2, e3⟩ := take_yes (d := d) (n := 2) (by omega)
    rw [e1, e2, e3]
    split at h
    · rename_i h2; exact (take_no (.inr h2)).2.2
    · cases h
theorem text_some {d t r : Tx} (h : pieceS d = some (t, r)) : textT d false = t ∧ textD d false = r ∧ textB d false = false := by
  unfold pieceS at h
  unfold textB textT textD
  split at h
  · cases h
  · rename_i h1
    obtain ⟨e1, e2, e3⟩ := take_yes (d := d) (n := 2) (by omega)
    rw [e1, e2, e3]
    split at h
    · cases h
    · rename_i h2
      injection h with h
      injection h with ha hb
      subst ha hb
      exact take_yes (by omega)
set_option maxRecDepth 4000 in
set_option maxHeartbeats 1000000 in
theorem text_c (T : Tbl) (b : Nat) (d : Tx) (bad : Bool) (F : List (Nat × Ob)) (L : List Nat) (hd : d.length ≤ 100000) : AC Tryd.prog T 89 [.ptr b 2 0 0] (⟨bob b d bad :: F, L⟩) (fun x h => x = .ret (.d (.str (textT d bad))) ∧ h = ⟨bob b (textD d bad) (textB d bad) :: F, L⟩) := by
  refine ⟨Tryd.call89, ACalls.enterS Tryd.func89 rfl Tryd.ntmps89 rfl fun hb => ?_⟩
  have ht1 := takeT_len (takeD d bad 2) (takeB d bad 2) (numT (takeT d bad 2))
  have ht2 := num2_lt d bad
  simp only [go_sem, Tryd.results89]
  refine AWp.rs fun K1 hK1 => ?_
  try simp only [go_sem, bob, icast, bytesOf_byteRows, byteRows_len]
  refine hK1 _ _ ?_
  try clear hK1 K1
  refine AWp.rs fun K2 hK2 => ?_
  try simp only [go_sem, bob, icast, bytesOf_byteRows, byteRows_len]
  refine DW.acp [b] [] rfl rfl rfl rfl (by (try simp only [go_sem, bob, icast, bytesOf_byteRows, byteRows_len]); rfl) rfl (number_c T b 2 (d) (bad) _ _ (hd) (by omega)) ?_
  rintro _ _ ⟨rfl, rfl⟩
  try simp only [go_sem, bob, icast, bytesOf_byteRows, byteRows_len]
  refine DW.acp [b] [] rfl rfl rfl rfl (by (try simp only [go_sem, bob, icast, bytesOf_byteRows, byteRows_len]); rfl) rfl (take_c T b (numT (takeT d bad 2)) (takeD d bad 2) (takeB d bad 2) _ _ (Nat.le_trans (takeD_len _ _ _) hd) (by have := num2_lt d bad; omega)) ?_
  rintro _ _ ⟨rfl, rfl⟩
  try simp only [go_sem, bob, icast, bytesOf_byteRows, byteRows_len]
  refine hK2 _ _ ?_
  try clear hK2 K2
  refine AWp.mask [false, true] rfl ?_
  simp only [go_sem]
  refine AWp.ret ?_
  apply endW_r [] [] [b] [] (by (try simp only [go_sem, bob, icast, bytesOf_byteRows, byteRows_len]); rfl)
  · refine ⟨rfl, by simp [go_sem, bob, textD, textB]⟩
  · simp [LeA, LeD, textT]
end Go.Proofs.YthhfbolhlbgbgaaDoor

/- Texts that the laws rest on, packed. -/
import Derived.Test.YthhfbolhlbgbgaaDoorGN
import Derived.Test.YthhfbolhlbgbgaaDoorGB
namespace Go.Proofs.YthhfbolhlbgbgaaDoor
set_option linter.unusedSimpArgs false
set_option linter.unusedVariables false
theorem numT2 {a c : UInt8} : numT [a, c] = a.toNat * 256 + c.toNat := by simp [numT, numF]
theorem numT3 {a c e : UInt8} : numT [a, c, e] = a.toNat * 65536 + c.toNat * 256 + e.toNat := by simp [numT, numF]; omega
theorem numT1 {a : UInt8} : numT [a] = a.toNat := by simp [numT, numF]
theorem drop_at {d : Tx} {i : Nat} (h : i < d.length) : d.drop i = d.getD i 0 :: d.drop (i + 1) := by
  rw [List.drop_eq_getElem_cons h]
  simp [List.getD, List.getElem?_eq_getElem h]
theorem u8_lt (c : UInt8) : (c.toNat : Int) ≤ 255 := by have : c.toNat < 256 := c.toNat_lt; omega
theorem take2_at {d : Tx} {i : Nat} (h : i + 2 ≤ d.length) : (d.drop i).take 2 = [d.getD i 0, d.getD (i + 1) 0] := by
  rw [drop_at (by omega), drop_at (i := i + 1) (by omega)]; rfl
theorem negneg : ((-1 : Int) < 0) = True := by simp
theorem natneg (i : Nat) : ((i : Int) < 0) = False := by simp
/-- a piece at a place: its text, and the place behind it -/
def pieceV (d : Tx) (i : Nat) : AV := match pieceS (d.drop i) with
  | none => .tup [.d (.str []), .d (.int .i64 (-1))]
  | some (t, _) => .tup [.d (.str t), .d (.int .i64 ((i + 2 + t.length : Nat) : Int))]
theorem piece_short {d : Tx} {i : Nat} (h : d.length < i + 2) : pieceS (d.drop i) = none := by
  unfold pieceS; rw [if_pos (by simp only [List.length_drop]; omega)]
theorem piece_off {d : Tx} {i : Nat} (h : i + 2 ≤ d.length) (h2 : d.length < i + 2 + ((d.getD i 0).toNat * 256 + (d.getD (i + 1) 0).toNat)) : pieceS (d.drop i) = none := by
  unfold pieceS; rw [if_neg (by simp only [List.length_drop]; omega), take2_at h, numT2, List.drop_drop, if_pos (by simp only [List.length_drop]; omega)]
theorem piece_on {d : Tx} {i : Nat} (h : i + 2 ≤ d.length) (h2 : i + 2 + ((d.getD i 0).toNat * 256 + (d.getD (i + 1) 0).toNat) ≤ d.length) : pieceS (d.drop i) = some ((d.drop (i + 2)).take ((d.getD i 0).toNat * 256 + (d.getD (i + 1) 0).toNat), d.drop (i + 2 + ((d.getD i 0).toNat * 256 + (d.getD (i + 1) 0).toNat))) := by
  unfold pieceS; rw [if_neg (by simp only [List.length_drop]; omega), take2_at h, numT2, List.drop_drop, if_neg (by simp only [List.length_drop]; omega), List.drop_drop]
theorem take_drop (d : Tx) (j m : Nat) : (d.take (j + m)).drop j = (d.drop j).take m := by rw [List.drop_take]; congr 1; omega
theorem take_drop' (d : Tx) (j m : Nat) (h : j ≤ m) : (d.take m).drop j = (d.drop j).take (m - j) := by rw [List.drop_take]
theorem piece_some {d t r : Tx} {i : Nat} (h : pieceS (d.drop i) = some (t, r)) : r = d.drop (i + 2 + t.length) ∧ i + 2 + t.length ≤ d.length := by
  rcases Nat.lt_or_ge d.length (i + 2) with h1 | h1
  · rw [piece_short h1] at h; cases h
  rcases Nat.lt_or_ge d.length (i + 2 + ((d.getD i 0).toNat * 256 + (d.getD (i + 1) 0).toNat)) with h2 | h2
  · rw [piece_off h1 h2] at h; cases h
  rw [piece_on h1 h2] at h
  injection h with h
  injection h with ha hb
  have hl : t.length = (d.getD i 0).toNat * 256 + (d.getD (i + 1) 0).toNat := by rw [← ha, List.length_take, List.length_drop]; omega
  rw [hl]
  exact ⟨hb.symm, h2⟩
set_option maxRecDepth 4000 in
set_option maxHeartbeats 1000000 in
theorem pieceAt_c (T : Tbl) (d : Tx) (i : Nat) (hd : d.length ≤ 100000) (hi : i ≤ 100000) : PC Tryd.prog T 90 [.d (.slc 1 (byteRows (d))), .d (.int .i64 i)] (pieceV d i) := by
  refine ⟨Tryd.call90, PCall.enterS Tryd.func90 rfl Tryd.ntmps90 rfl fun hb => ?_⟩
  simp only [go_sem, Tryd.results90]
  refine AWp.rs fun K1 hK1 => ?_
  try simp only [go_sem, icast, byteRows_len, byteRows_take, byteRows_drop, bytesOf_byteRows, toNat_nat, Int.toNat_natCast, natneg]
  refine hK1 _ _ ?_
  try clear hK1 K1
  refine AWp.seq fun K2 hK2 => ?_
  refine AWp.rs fun K3 hK3 => ?_
  try simp only [go_sem, icast, byteRows_len, byteRows_take, byteRows_drop, bytesOf_byteRows, toNat_nat, Int.toNat_natCast, natneg]
  (repeat (with_reducible refine And.intro ?_ ?_; (first | decide | (intro hg; refine ⟨hg, ?_⟩; omega))))
  refine hK3 _ _ ?_
  try clear hK3 K3
  refine AWp.mask [true, true, false, false, false, false, false, false, false, false, false, false, true] rfl ?_
  simp only [go_sem]
  refine AWp.cond _ rfl (fun hc0 => ?_) (fun hc0 => ?_)
  · skip
    try simp only [decide_eq_true_eq, decide_eq_false_iff_not, Bool.not_eq_true', Bool.not_eq_false', Bool.and_eq_true, Bool.or_eq_true, Bool.and_eq_false_iff, Bool.or_eq_false_iff, Int.not_lt, Int.not_le, beq_iff_eq, beq_eq_false_iff_ne, ne_eq, Bool.not_eq_true, Bool.not_eq_false] at hc0
    have hp := piece_short (d := d) (i := i) (by first | omega | (rcases hc0 with h | h <;> first | exact h.elim | omega) | (simp at hc0; omega))
    refine AWp.rs fun K4 hK4 => ?_
    try simp only [go_sem, icast, byteRows_len, byteRows_take, byteRows_drop, bytesOf_byteRows, toNat_nat, Int.toNat_natCast, natneg]
    refine hK4 _ _ ?_
    try clear hK4 K4
    refine AWp.ret ?_
    try simp only [go_sem, icast, byteRows_len, byteRows_take, byteRows_drop, bytesOf_byteRows, toNat_nat, Int.toNat_natCast, natneg]
    rw [pieceV, hp]; simp [LeA, LeL, LeD]
  · skip
    try simp only [decide_eq_true_eq, decide_eq_false_iff_not, Bool.not_eq_true', Bool.not_eq_false', Bool.and_eq_true, Bool.or_eq_true, Bool.and_eq_false_iff, Bool.or_eq_false_iff, Int.not_lt, Int.not_le, beq_iff_eq, beq_eq_false_iff_ne, ne_eq, Bool.not_eq_true, Bool.not_eq_false] at hc0
    have h1 : i + 2 ≤ d.length := by omega
    have u1 := u8_lt (d.getD i 0)
    have u2 := u8_lt (d.getD (i + 1) 0)
    refine AWp.skip ?_
    refine thenQ_n ?_
    refine hK2 _ _ ?_
    try clear hK2 K2
    refine AWp.ds true [0, 1, 2, 3, 4, 5, 6, 7, 8, 9, 10, 11, 12, 13, 14, 15, 16] rfl (by kernel_rfl) fun K5 hK5 => ?_
    try simp only [go_sem, icast, byteRows_len, byteRows_take, byteRows_drop, bytesOf_byteRows, toNat_nat, Int.toNat_natCast, natneg, byteRows_getD d i _ (show i < d.length by omega), byteRows_getD d (i + 1) _ (show i + 1 < d.length by omega)]
    (repeat (with_reducible refine And.intro ?_ ?_; omega))
    refine hK5 _ _ ?_
    try clear hK5 K5
    refine AWp.mask [true, true, true] rfl ?_
    simp only [go_sem]
    refine AWp.seq fun K6 hK6 => ?_
    refine AWp.rs fun K7 hK7 => ?_
    try simp only [go_sem, icast, byteRows_len, byteRows_take, byteRows_drop, bytesOf_byteRows, toNat_nat, Int.toNat_natCast, natneg, byteRows_getD d i _ (show i < d.length by omega), byteRows_getD d (i + 1) _ (show i + 1 < d.length by omega)]
    refine hK7 _ _ ?_
    try clear hK7 K7
    refine AWp.cond _ rfl (fun hc1 => ?_) (fun hc1 => ?_)
    · skip
      try simp only [decide_eq_true_eq, decide_eq_false_iff_not, Bool.not_eq_true', Bool.not_eq_false', Bool.and_eq_true, Bool.or_eq_true, Bool.and_eq_false_iff, Bool.or_eq_false_iff, Int.not_lt, Int.not_le, beq_iff_eq, beq_eq_false_iff_ne, ne_eq, Bool.not_eq_true, Bool.not_eq_false] at hc1
      have hp := piece_off h1 (by omega)
      refine AWp.rs fun K8 hK8 => ?_
      try simp only [go_sem, icast, byteRows_len, byteRows_take, byteRows_drop, bytesOf_byteRows, toNat_nat, Int.toNat_natCast, natneg, byteRows_getD d i _ (show i < d.length by omega), byteRows_getD d (i + 1) _ (show i + 1 < d.length by omega)]
      refine hK8 _ _ ?_
      try clear hK8 K8
      refine AWp.mask [false, false, true, true] rfl ?_
      simp only [go_sem]
      refine AWp.ret ?_
      try simp only [go_sem, icast, byteRows_len, byteRows_take, byteRows_drop, bytesOf_byteRows, toNat_nat, Int.toNat_natCast, natneg, byteRows_getD d i _ (show i < d.length by omega), byteRows_getD d (i + 1) _ (show i + 1 < d.length by omega)]
      rw [pieceV, hp]; simp [LeA, LeL, LeD]
    · skip
      try simp only [decide_eq_true_eq, decide_eq_false_iff_not, Bool.not_eq_true', Bool.not_eq_false', Bool.and_eq_true, Bool.or_eq_true, Bool.and_eq_false_iff, Bool.or_eq_false_iff, Int.not_lt, Int.not_le, beq_iff_eq, beq_eq_false_iff_ne, ne_eq, Bool.not_eq_true, Bool.not_eq_false] at hc1
      have hp := piece_on h1 (by omega)
      refine AWp.skip ?_
      refine thenQ_n ?_
      refine hK6 _ _ ?_
      try clear hK6 K6
      refine AWp.mask [true, true, true] rfl ?_
      simp only [go_sem]
      refine AWp.rs fun K9 hK9 => ?_
      try simp only [go_sem, icast, byteRows_len, byteRows_take, byteRows_drop, bytesOf_byteRows, toNat_nat, Int.toNat_natCast, natneg, byteRows_getD d i _ (show i < d.length by omega), byteRows_getD d (i + 1) _ (show i + 1 < d.length by omega)]
      (repeat (with_reducible refine And.intro ?_ ?_; omega))
      refine hK9 _ _ ?_
      try clear hK9 K9
      refine AWp.mask [false, false, true, true] rfl ?_
      simp only [go_sem]
      refine AWp.ret ?_
      try simp only [go_sem, icast, byteRows_len, byteRows_take, byteRows_drop, bytesOf_byteRows, toNat_nat, Int.toNat_natCast, natneg, byteRows_getD d i _ (show i < d.length by omega), byteRows_getD d (i + 1) _ (show i + 1 < d.length by omega)]
      generalize hA : (d.getD i 0).toNat = A at *
      generalize hB : (d.getD (i + 1) 0).toNat = B at *
      have e1 : (i : Int) + 2 + 256 * (A : Int) + (B : Int) = ((i + 2 + (A * 256 + B) : Nat) : Int) := by omega
      have e2 : (i : Int) + 2 = ((i + 2 : Nat) : Int) := by omega
      have hl : (List.take (A * 256 + B) (List.drop (i + 2) d)).length = A * 256 + B := by rw [List.length_take, List.length_drop]; omega
      rw [pieceV, hp, e1, e2, Int.toNat_natCast, Int.toNat_natCast, take_drop]
      simp only [hl]
      simp [LeA, LeL, LeD]
set_option maxRecDepth 4000 in
set_option maxHeartbeats 1000000 in
theorem pieceAt_neg (T : Tbl) (d : Tx) : PC Tryd.prog T 90 [.d (.slc 1 (byteRows (d))), .d (.int .i64 (-1 : Int))] (.tup [.d (.str []), .d (.int .i64 (-1))]) := by
  refine ⟨Tryd.call90, PCall.enterS Tryd.func90 rfl Tryd.ntmps90 rfl fun hb => ?_⟩
  simp only [go_sem, Tryd.results90]
  refine AWp.rs fun K1 hK1 => ?_
  try simp only [go_sem, icast, negneg]
  refine hK1 _ _ ?_
  try clear hK1 K1
  refine AWp.seq fun K2 hK2 => ?_
  refine AWp.rs fun K3 hK3 => ?_
  try simp only [go_sem, icast, negneg]
  (repeat (with_reducible refine And.intro ?_ ?_; decide))
  refine hK3 _ _ ?_
  try clear hK3 K3
  refine AWp.mask [true, true, false, false, false, false, false, false, false, false, false, false, true] rfl ?_
  simp only [go_sem]
  refine AWp.cond _ rfl (fun hc0 => ?_) (fun hc0 => ?_)
  · skip
    try simp only [decide_eq_true_eq, decide_eq_false_iff_not, Bool.not_eq_true', Bool.not_eq_false', Bool.and_eq_true, Bool.or_eq_true, Bool.and_eq_false_iff, Bool.or_eq_false_iff, Int.not_lt, Int.not_le, beq_iff_eq, beq_eq_false_iff_ne, ne_eq, Bool.not_eq_true, Bool.not_eq_false] at hc0
    refine AWp.rs fun K4 hK4 => ?_
    try simp only [go_sem, icast, negneg]
    refine hK4 _ _ ?_
    try clear hK4 K4
    refine AWp.ret ?_
    try simp only [go_sem, icast, negneg]
    all_goals done
  · skip
    exact absurd hc0 (by simp)
/-- an entry off the front of some bytes -/
def entB (d : Tx) : Option (Ent × Tx) :=
  if d.length < 5 then none
  else match pieceS (d.drop 5) with
    | none => none
    | some (x, r1) => match pieceS r1 with
      | none => none
      | some (y, r2) => match pieceS r2 with
        | none => none
        | some (z, r3) => some (⟨((d.getD 0 0).toNat : Nat), x, (numT ((d.drop 2).take 3) : Nat), ((d.getD 1 0).toNat : Nat), y, z⟩, r3)
def entsB : Nat → Tx → Option (List Ent × Tx)
  | 0, d => some ([], d)
  | n + 1, d => match entB d with
    | none => none
    | some (x, r) => (entsB n r).map fun p => (x :: p.1, p.2)
/-- a number read: value, bytes left, ran short -/
def NumR (d : Tx) (bad : Bool) (n v : Nat) (d' : Tx) (b' : Bool) : Prop := v = numT (takeT d bad n) ∧ d' = takeD d bad n ∧ b' = takeB d bad n
def TxR (d : Tx) (bad : Bool) (t d' : Tx) (b' : Bool) : Prop := t = textT d bad ∧ d' = textD d bad ∧ b' = textB d bad
theorem NumR.len {d d' : Tx} {bad b' : Bool} {n v : Nat} (h : NumR d bad n v d' b') : d'.length ≤ d.length := by rw [h.2.1]; exact takeD_len _ _ _
theorem TxR.len {d d' t : Tx} {bad b' : Bool} (h : TxR d bad t d' b') : d'.length ≤ d.length := by rw [h.2.1]; exact textD_len _ _
theorem NumR.small {d d' : Tx} {bad b' : Bool} {n v : Nat} (hn : n ≤ 3) (h : NumR d bad n v d' b') : v < 16777216 := by
  rw [h.1]
  have h1 := numT_lt (takeT d bad n)
  have h2 : 256 ^ (takeT d bad n).length ≤ 256 ^ 3 := Nat.pow_le_pow_right (by decide) (Nat.le_trans (takeT_len d bad n) hn)
  omega
theorem NumR.small1 {d d' : Tx} {bad b' : Bool} {v : Nat} (h : NumR d bad 1 v d' b') : v < 256 := by
  rw [h.1]
  have h1 := numT_lt (takeT d bad 1)
  have h2 : 256 ^ (takeT d bad 1).length ≤ 256 ^ 1 := Nat.pow_le_pow_right (by decide) (takeT_len d bad 1)
  omega
theorem TxR.tlen {d d' t : Tx} {bad b' : Bool} (h : TxR d bad t d' b') : t.length ≤ 100000 := by rw [h.1]; exact textT_len _ _
theorem NumR.bad {d d' : Tx} {b' : Bool} {n v : Nat} (h : NumR d true n v d' b') : b' = true := h.2.2
theorem TxR.bad {d d' t : Tx} {b' : Bool} (h : TxR d true t d' b') : b' = true := h.2.2
theorem NumR.cases {d d' : Tx} {b' : Bool} {n v : Nat} (h : NumR d false n v d' b') : (b' = true ∧ d.length < n) ∨ (b' = false ∧ n ≤ d.length ∧ v = numT (d.take n) ∧ d' = d.drop n) := by
  obtain ⟨h1, h2, h3⟩ := h
  rcases Nat.lt_or_ge d.length n with hl | hl
  · left; rw [h3, (take_no (.inr hl)).2.2]; exact ⟨rfl, hl⟩
  · right
    obtain ⟨e1, e2, e3⟩ := take_yes hl
    rw [h3, h1, h2, e1, e2, e3]; exact ⟨rfl, hl, rfl, rfl⟩
theorem TxR.cases {d d' t : Tx} {b' : Bool} (h : TxR d false t d' b') : (b' = true ∧ pieceS d = none) ∨ (b' = false ∧ pieceS d = some (t, d')) := by
  obtain ⟨h1, h2, h3⟩ := h
  cases hp : pieceS d with
  | none => left; rw [h3, text_none hp]; exact ⟨rfl, rfl⟩
  | some x =>
    obtain ⟨t', r⟩ := x
    right
    obtain ⟨e1, e2, e3⟩ := text_some hp
    rw [h1, h2, h3, e1, e2, e3]; exact ⟨rfl, rfl⟩
theorem ent_step {d d1 d2 d3 d4 d5 d6 x y z : Tx} {b1 b2 b3 b4 b5 b6 : Bool} {k f u : Nat} (h1 : NumR d false 1 k d1 b1) (h2 : NumR d1 b1 1 f d2 b2) (h3 : NumR d2 b2 3 u d3 b3) (h4 : TxR d3 b3 x d4 b4) (h5 : TxR d4 b4 y d5 b5) (h6 : TxR d5 b5 z d6 b6) :
    (b6 = false ∧ entB d = some (⟨k, x, u, f, y, z⟩, d6)) ∨ (b6 = true ∧ entB d = none) := by
  have bad5 : b5 = true → b6 = true := fun e => by subst e; exact h6.bad
  have bad4 : b4 = true → b6 = true := fun e => by subst e; exact bad5 h5.bad
  have bad3 : b3 = true → b6 = true := fun e => by subst e; exact bad4 h4.bad
  have bad2 : b2 = true → b6 = true := fun e => by subst e; exact bad3 h3.bad
  have bad1 : b1 = true → b6 = true := fun e => by subst e; exact bad2 h2.bad
  rcases h1.cases with ⟨e, hl⟩ | ⟨e, hl1, hk, hd1⟩
  · exact .inr ⟨bad1 e, by unfold entB; rw [if_pos (by omega)]⟩
  subst e
  rcases h2.cases with ⟨e, hl⟩ | ⟨e, hl2, hf, hd2⟩
  · exact .inr ⟨bad2 e, by unfold entB; rw [hd1, List.length_drop] at hl; rw [if_pos (by omega)]⟩
  subst e
  rcases h3.cases with ⟨e, hl⟩ | ⟨e, hl3, hu, hd3⟩
  · exact .inr ⟨bad3 e, by unfold entB; rw [hd2, hd1, List.length_drop, List.length_drop] at hl; rw [if_pos (by omega)]⟩
  subst e
  have hd2' : d2 = d.drop 2 := by rw [hd2, hd1, List.drop_drop]
  have hd3' : d3 = d.drop 5 := by rw [hd3, hd2', List.drop_drop]
  have hl5 : 5 ≤ d.length := by rw [hd2', List.length_drop] at hl3; omega
  have hk' : k = (d.getD 0 0).toNat := by
    rw [hk, show d.take 1 = [d.getD 0 0] from by rw [show d = d.drop 0 from rfl, drop_at (by omega)]; rfl, numT1]
  have hf' : f = (d.getD 1 0).toNat := by
    rw [hf, hd1, drop_at (by omega), show (d.getD 1 0 :: d.drop (1 + 1)).take 1 = [d.getD 1 0] from rfl, numT1]
  unfold entB
  rw [if_neg (by omega), ← hd3']
  rcases h4.cases with ⟨e, hp⟩ | ⟨e, hp⟩
  · exact .inr ⟨bad4 e, by rw [hp]⟩
  subst e
  rw [hp]
  rcases h5.cases with ⟨e, hp5⟩ | ⟨e, hp5⟩
  · exact .inr ⟨bad5 e, by simp only [hp5]⟩
  subst e
  rcases h6.cases with ⟨e, hp6⟩ | ⟨e, hp6⟩
  · exact .inr ⟨e, by simp only [hp5, hp6]⟩
  refine .inl ⟨e, ?_⟩
  simp only [hp5, hp6]
  rw [hk', hf', hu, hd2']
end Go.Proofs.YthhfbolhlbgbgaaDoor

namespace Go.Proofs.YthhfbolhlbgbgaaDoor
set_option linter.unusedSimpArgs false
set_option linter.unusedVariables false
theorem number_r (T : Tbl) (b m : Nat) (d : Tx) (bad : Bool) (F : List (Nat × Ob)) (L : List Nat) (hd : d.length ≤ 100000) (hm : m ≤ 3) : AC Tryd.prog T 65 [.ptr b 2 0 0, .d (.int .i64 (m : Nat))] ⟨bob b d bad :: F, L⟩ (fun x h => ∃ v d' b', NumR d bad m v d' b' ∧ x = .ret (.d (.int .i64 (v : Nat))) ∧ h = ⟨bob b d' b' :: F, L⟩) :=
  (number_c T b m d bad F L hd hm).mono fun _ _ ⟨e1, e2⟩ => ⟨_, _, _, ⟨rfl, rfl, rfl⟩, e1, e2⟩
theorem text_r (T : Tbl) (b : Nat) (d : Tx) (bad : Bool) (F : List (Nat × Ob)) (L : List Nat) (hd : d.length ≤ 100000) : AC Tryd.prog T 89 [.ptr b 2 0 0] ⟨bob b d bad :: F, L⟩ (fun x h => ∃ t d' b', TxR d bad t d' b' ∧ x = .ret (.d (.str t)) ∧ h = ⟨bob b d' b' :: F, L⟩) :=
  (text_c T b d bad F L hd).mono fun _ _ ⟨e1, e2⟩ => ⟨_, _, _, ⟨rfl, rfl, rfl⟩, e1, e2⟩
/-- a batch off some bytes: version, entries, bytes left -/
def decL (D : Tx) : Option (Nat × List Ent × Tx) := if D.length < 2 then none else (entsB (D.getD 1 0).toNat (D.drop 2)).map fun p => ((D.getD 0 0).toNat, p.1, p.2)
def zeroV : AV := .agg [.d (.int .i64 0), .d (.slc 6 [])]
def decV (D : Tx) : AV := if 100000 < D.length then .tup [zeroV, .d (.int .i64 1)] else match decL D with
  | none => .tup [zeroV, .d (.int .i64 4)]
  | some (u, l, r) => if 0 < r.length then .tup [zeroV, .d (.int .i64 3)] else if batE u l = 0 then .tup [.agg [.d (.int .i64 u), .d (.slc 6 (entsD l))], .d (.int .i64 0)] else .tup [zeroV, .d (.int .i64 (batE u l))]
theorem decV_1 {D : Tx} (h : 100000 < D.length) : decV D = .tup [zeroV, .d (.int .i64 1)] := if_pos h
theorem decV_4 {D : Tx} (h : D.length ≤ 100000) (hn : decL D = none) : decV D = .tup [zeroV, .d (.int .i64 4)] := by rw [decV, if_neg (by omega), hn]
theorem decV_3 {D r : Tx} {u : Nat} {l : List Ent} (h : D.length ≤ 100000) (hn : decL D = some (u, l, r)) (hr : 0 < r.length) : decV D = .tup [zeroV, .d (.int .i64 3)] := by rw [decV, if_neg (by omega), hn]; exact if_pos hr
theorem decV_e {D r : Tx} {u : Nat} {l : List Ent} (h : D.length ≤ 100000) (hn : decL D = some (u, l, r)) (hr : r.length = 0) (he : ¬ batE u l = 0) : decV D = .tup [zeroV, .d (.int .i64 (batE u l))] := by rw [decV, if_neg (by omega), hn]; exact (if_neg (by omega)).trans (if_neg he)
theorem decV_0 {D r : Tx} {u : Nat} {l : List Ent} (h : D.length ≤ 100000) (hn : decL D = some (u, l, r)) (hr : r.length = 0) (he : batE u l = 0) : decV D = .tup [.agg [.d (.int .i64 u), .d (.slc 6 (entsD l))], .d (.int .i64 0)] := by rw [decV, if_neg (by omega), hn]; exact (if_neg (by omega)).trans (if_pos he)
theorem dec_start {D d1 d2 : Tx} {b1 b2 : Bool} {u c : Nat} (h1 : NumR D false 1 u d1 b1) (h2 : NumR d1 b1 1 c d2 b2) : (b2 = true ∧ decL D = none) ∨ (b2 = false ∧ decL D = (entsB c d2).map fun p => (u, p.1, p.2)) := by
  have bad1 : b1 = true → b2 = true := fun e => by subst e; exact h2.bad
  rcases h1.cases with ⟨e, hl⟩ | ⟨e, hl1, hk, hd1⟩
  · exact .inl ⟨bad1 e, by unfold decL; rw [if_pos (by omega)]⟩
  subst e
  rcases h2.cases with ⟨e, hl⟩ | ⟨e, hl2, hf, hd2⟩
  · exact .inl ⟨e, by unfold decL; rw [hd1, List.length_drop] at hl; rw [if_pos (by omega)]⟩
  have hl : 2 ≤ D.length := by rw [hd1, List.length_drop] at hl2; omega
  have hk' : u = (D.getD 0 0).toNat := by
    rw [hk, show D.take 1 = [D.getD 0 0] from by rw [show D = D.drop 0 from rfl, drop_at (by omega)]; rfl, numT1]
  have hf' : c = (D.getD 1 0).toNat := by
    rw [hf, hd1, drop_at (by omega), show (D.getD 1 0 :: D.drop (1 + 1)).take 1 = [D.getD 1 0] from rfl, numT1]
  refine .inr ⟨e, ?_⟩
  unfold decL
  rw [if_neg (by omega), hk', hf', hd2, hd1, List.drop_drop]
theorem dec_start2 {D d1 d2 : Tx} {b1 b2 : Bool} {u c : Nat} (h1 : NumR D false 1 u d1 b1) (h2 : NumR d1 b1 1 c d2 b2) : (b2 = false → decL D = (entsB (c - ([] : List Ent).length) d2).map fun p => (u, [] ++ p.1, p.2)) ∧ (b2 = true → decL D = none) := by
  rcases dec_start h1 h2 with ⟨e, h⟩ | ⟨e, h⟩
  · exact ⟨fun e2 => by simp [e] at e2, fun _ => h⟩
  · exact ⟨fun _ => h, fun e2 => by simp [e] at e2⟩
theorem ents_more {c : Nat} {acc : List Ent} {d r : Tx} {x : Ent} (h : acc.length < c) (he : entB d = some (x, r)) (u : Nat) : (entsB (c - acc.length) d).map (fun p => (u, acc ++ p.1, p.2)) = (entsB (c - (acc ++ [x]).length) r).map (fun p => (u, (acc ++ [x]) ++ p.1, p.2)) := by
  rw [show c - acc.length = (c - (acc ++ [x]).length) + 1 by rw [List.length_append, List.length_singleton]; omega]
  rw [entsB, he]
  simp only [Option.map_map]
  congr 1
  funext p
  simp
theorem ents_off {c : Nat} {acc : List Ent} {d : Tx} (h : acc.length < c) (he : entB d = none) (u : Nat) : (entsB (c - acc.length) d).map (fun p => (u, acc ++ p.1, p.2)) = none := by
  rw [show c - acc.length = (c - acc.length - 1) + 1 by omega]
  rw [entsB, he]; rfl
theorem dec_next {D d d1 d2 d3 d4 d5 d6 x y z : Tx} {bad b1 b2 b3 b4 b5 b6 : Bool} {k f u v c : Nat} {acc : List Ent} (hlt : acc.length < c) (hbad : bad = false) (hi : bad = false → decL D = (entsB (c - acc.length) d).map fun p => (v, acc ++ p.1, p.2)) (h1 : NumR d bad 1 k d1 b1) (h2 : NumR d1 b1 1 f d2 b2) (h3 : NumR d2 b2 3 u d3 b3) (h4 : TxR d3 b3 x d4 b4) (h5 : TxR d4 b4 y d5 b5) (h6 : TxR d5 b5 z d6 b6) :
    (b6 = false → decL D = (entsB (c - (acc ++ [(⟨k, x, u, f, y, z⟩ : Ent)]).length) d6).map fun p => (v, (acc ++ [(⟨k, x, u, f, y, z⟩ : Ent)]) ++ p.1, p.2)) ∧ (b6 = true → decL D = none) := by
  subst hbad
  rw [hi rfl]
  rcases ent_step h1 h2 h3 h4 h5 h6 with ⟨e, h⟩ | ⟨e, h⟩
  · exact ⟨fun _ => ents_more hlt h v, fun e2 => by simp [e] at e2⟩
  · exact ⟨fun e2 => by simp [e] at e2, fun _ => ents_off hlt h v⟩
theorem ents_done {c : Nat} {acc : List Ent} {d : Tx} (h : c ≤ acc.length) (u : Nat) : (entsB (c - acc.length) d).map (fun p => (u, acc ++ p.1, p.2)) = some (u, acc, d) := by
  rw [show c - acc.length = 0 by omega]; simp [entsB]
theorem entsD_app (l : List Ent) (x : Ent) : entsD l ++ [entD x] = entsD (l ++ [x]) := by simp [entsD]
theorem lssT {a c : Nat} (h : a < c) : ((a : Int) < (c : Int)) = True := by simp; omega
theorem lssF {a c : Nat} (h : c ≤ a) : ((a : Int) < (c : Int)) = False := by simp; omega
set_option maxRecDepth 4000 in
set_option maxHeartbeats 1000000 in
theorem Decode_c (T : Tbl) (hL : LibT T) (D : Tx) : PC Tryd.prog T 49 [.d (.slc 1 (byteRows (D)))] (decV D) := by
  refine ⟨Tryd.call49, PCall.enterS Tryd.func49 rfl Tryd.ntmps49 rfl fun hb => ?_⟩
  simp only [go_sem, Tryd.results49]
  refine AWp.rs fun K1 hK1 => ?_
  try simp only [go_sem, bob, icast, byteRows_len, zeroV]
  intro b2
  first | intro fb2 | have fb2 := True.intro
  try simp only [freshL, bob] at fb2
  refine hK1 _ _ ?_
  try clear hK1 K1
  refine AWp.seq fun K2 hK2 => ?_
  refine AWp.rs fun K3 hK3 => ?_
  try simp only [go_sem, bob, icast, byteRows_len, zeroV, fb2]
  refine hK3 _ _ ?_
  try clear hK3 K3
  refine AWp.cond _ rfl (fun hc0 => ?_) (fun hc0 => ?_)
  · skip
    try simp only [decide_eq_true_eq, decide_eq_false_iff_not, Bool.not_eq_true', Bool.not_eq_false', Bool.and_eq_true, Bool.or_eq_true, Bool.and_eq_false_iff, Bool.or_eq_false_iff, Int.not_lt, Int.not_le, beq_iff_eq, beq_eq_false_iff_ne, ne_eq, Bool.not_eq_true, Bool.not_eq_false] at hc0
    refine AWp.rs fun K4 hK4 => ?_
    try simp only [go_sem, bob, icast, byteRows_len, zeroV, fb2]
    refine hK4 _ _ ?_
    try clear hK4 K4
    refine AWp.mask [false, true, true] rfl ?_
    simp only [go_sem]
    refine AWp.ret ?_
    try simp only [go_sem, bob, icast, byteRows_len, zeroV, fb2]
    rw [decV_1 (by omega)]; simp [zeroV, LeA, LeL, LeD]
  · skip
    try simp only [decide_eq_true_eq, decide_eq_false_iff_not, Bool.not_eq_true', Bool.not_eq_false', Bool.and_eq_true, Bool.or_eq_true, Bool.and_eq_false_iff, Bool.or_eq_false_iff, Int.not_lt, Int.not_le, beq_iff_eq, beq_eq_false_iff_ne, ne_eq, Bool.not_eq_true, Bool.not_eq_false] at hc0
    have lD : D.length ≤ 100000 := by omega
    refine AWp.skip ?_
    refine thenQ_n ?_
    refine hK2 _ _ ?_
    try clear hK2 K2
    refine AWp.mask [true, true] rfl ?_
    simp only [go_sem]
    refine AWp.rs fun K5 hK5 => ?_
    try simp only [go_sem, bob, icast, byteRows_len, zeroV, fb2]
    intro br
    first | intro fbr | have fbr := True.intro
    try simp only [freshL, bob] at fbr
    refine hK5 _ _ ?_
    try clear hK5 K5
    refine AWp.mask [false, true, true] rfl ?_
    simp only [go_sem]
    refine AWp.rs fun K6 hK6 => ?_
    try simp only [go_sem, bob, icast, byteRows_len, zeroV, fb2, fbr]
    refine DW.acp [br] [] rfl rfl rfl rfl (by (try simp only [go_sem, bob, icast, byteRows_len, zeroV, fb2, fbr]); rfl) rfl (number_r T br 1 D false _ _ lD (by omega)) ?_
    rintro _ _ ⟨U7, D8, B9, hD8, rfl, rfl⟩
    have lD8 := Nat.le_trans hD8.len lD
    have qU7 := hD8
    try simp only [go_sem, bob, icast, byteRows_len, zeroV, fb2, fbr]
    intro b5
    first | intro fb5 | have fb5 := True.intro
    try simp only [freshL, bob] at fb5
    refine hK6 _ _ ?_
    try clear hK6 K6
    refine AWp.ownNilH b5 0 1 6 (by (try simp only [go_sem, bob, icast, byteRows_len, zeroV, fb2, fbr, fb5]); rfl) rfl rfl (by decide) fun t0 ft0 => ?_
    try simp only [freshT] at ft0
    simp only [go_sem, bob, icast, byteRows_len, zeroV, fb2, fbr, fb5, ft0]
    refine AWp.seq fun K10 hK10 => ?_
    refine AWp.rs fun K11 hK11 => ?_
    try simp only [go_sem, bob, icast, byteRows_len, zeroV, fb2, fbr, fb5, ft0]
    refine DW.acp [br] [] rfl rfl rfl rfl (by (try simp only [go_sem, bob, icast, byteRows_len, zeroV, fb2, fbr, fb5, ft0]); rfl) rfl (number_r T br 1 D8 B9 _ _ lD8 (by omega)) ?_
    rintro _ _ ⟨C12, D13, B14, hD13, rfl, rfl⟩
    have lD13 := Nat.le_trans hD13.len lD8
    have qC12 := hD13
    try simp only [go_sem, bob, icast, byteRows_len, zeroV, fb2, fbr, fb5, ft0]
    obtain ⟨hs1, hs2⟩ := dec_start2 qU7 qC12
    have hC := qC12.small1
    refine hK11 _ _ ?_
    try clear hK11 K11
    refine AWp.mask [true, true, true, true] rfl ?_
    simp only [go_sem]
    refine AWp.block ?_
    refine AWp.loopS [true, true, true, true] [] (fun n lc hc => ∃ (d : Tx) (bad : Bool) (acc : List Ent) (v : Nat), n = 2 * (C12 - acc.length) ∧ EqS lc [] ∧ EqS hc (⟨[bob br d bad, (b5, ⟨2, 1, [[.d (.int .i64 (U7 : Nat)), .own v 6 (entsD acc)]]⟩), (b2, ⟨2, 1, [[.d (.int .i64 0), .nils]]⟩)], [v]⟩) ∧ (d.length ≤ 100000) ∧ (acc.length ≤ C12) ∧ (∀ x ∈ acc, EntOk x) ∧ (bad = false → decL D = (entsB (C12 - acc.length) d).map (fun p => (U7, acc ++ p.1, p.2))) ∧ (bad = true → decL D = none)) rfl ?_ ?_
    · refine ⟨_, D13, B14, [], t0, rfl, ?_, ?_, ?_, ?_, ?_, ?_, ?_⟩
      · (try simp only [go_sem, bob, icast, byteRows_len, zeroV, fb2, fbr, fb5, ft0]) <;> first | exact ⟨rfl⟩ | (constructor; simp; done)
      · (try simp only [go_sem, bob, icast, byteRows_len, zeroV, fb2, fbr, fb5, ft0]) <;> first | exact ⟨rfl⟩ | (constructor; rfl)
      all_goals (first | omega | exact hs1 | exact hs2 | (simp; done))
    · rintro _ _ _ ⟨d, bad, acc, v, rfl, ⟨rfl⟩, ⟨rfl⟩, ld, h2, h3, h4, h5⟩
      simp only [go_sem]
      refine AWp.seq fun K15 hK15 => ?_
      rcases Nat.lt_or_ge acc.length C12 with hlt | hge
      · skip
        refine AWp.rs fun K16 hK16 => ?_
        try simp only [go_sem, bob, icast, byteRows_len, zeroV, fb2, fbr, fb5, ft0, lssT hlt]
        refine hK16 _ _ ?_
        try clear hK16 K16
        refine AWp.mask [true, true, true, true, false, false, false, false, false, false, false, false, false, false, false, true] rfl ?_
        simp only [go_sem]
        refine AWp.cond _ rfl (fun hc1 => ?_) (fun hc1 => ?_)
        · skip
          try simp only [decide_eq_true_eq, decide_eq_false_iff_not, Bool.not_eq_true', Bool.not_eq_false', Bool.and_eq_true, Bool.or_eq_true, Bool.and_eq_false_iff, Bool.or_eq_false_iff, Int.not_lt, Int.not_le, beq_iff_eq, beq_eq_false_iff_ne, ne_eq, Bool.not_eq_true, Bool.not_eq_false] at hc1
          refine AWp.skip ?_
          refine thenQ_n ?_
          refine hK15 _ _ ?_
          try clear hK15 K15
          refine AWp.block ?_
          refine AWp.rs fun K17 hK17 => ?_
          try simp only [go_sem, bob, icast, byteRows_len, zeroV, fb2, fbr, fb5, ft0, lssT hlt]
          refine DW.acp [br] [] rfl rfl rfl rfl (by (try simp only [go_sem, bob, icast, byteRows_len, zeroV, fb2, fbr, fb5, ft0, lssT hlt]); rfl) rfl (number_r T br 1 d bad _ _ ld (by omega)) ?_
          rintro _ _ ⟨K18, D19, B20, hD19, rfl, rfl⟩
          have lD19 := Nat.le_trans hD19.len ld
          have qK18 := hD19
          try simp only [go_sem, bob, icast, byteRows_len, zeroV, fb2, fbr, fb5, ft0, lssT hlt]
          refine DW.acp [br] [] rfl rfl rfl rfl (by (try simp only [go_sem, bob, icast, byteRows_len, zeroV, fb2, fbr, fb5, ft0, lssT hlt]); rfl) rfl (number_r T br 1 D19 B20 _ _ lD19 (by omega)) ?_
          rintro _ _ ⟨G21, D22, B23, hD22, rfl, rfl⟩
          have lD22 := Nat.le_trans hD22.len lD19
          have qG21 := hD22
          try simp only [go_sem, bob, icast, byteRows_len, zeroV, fb2, fbr, fb5, ft0, lssT hlt]
          refine DW.acp [br] [] rfl rfl rfl rfl (by (try simp only [go_sem, bob, icast, byteRows_len, zeroV, fb2, fbr, fb5, ft0, lssT hlt]); rfl) rfl (number_r T br 3 D22 B23 _ _ lD22 (by omega)) ?_
          rintro _ _ ⟨N24, D25, B26, hD25, rfl, rfl⟩
          have lD25 := Nat.le_trans hD25.len lD22
          have qN24 := hD25
          try simp only [go_sem, bob, icast, byteRows_len, zeroV, fb2, fbr, fb5, ft0, lssT hlt]
          intro b7
          first | intro fb7 | have fb7 := True.intro
          try simp only [freshL, bob] at fb7
          refine hK17 _ _ ?_
          try clear hK17 K17
          refine AWp.mask [true, true, true, true, true] rfl ?_
          simp only [go_sem]
          refine AWp.rs fun K27 hK27 => ?_
          try simp only [go_sem, bob, icast, byteRows_len, zeroV, fb2, fbr, fb5, ft0, lssT hlt, fb7]
          refine DW.acp [br] [] rfl rfl rfl rfl (by (try simp only [go_sem, bob, icast, byteRows_len, zeroV, fb2, fbr, fb5, ft0, lssT hlt, fb7]); rfl) rfl (text_r T br D25 B26 _ _ lD25) ?_
          rintro _ _ ⟨X28, D29, B30, hD29, rfl, rfl⟩
          have lD29 := Nat.le_trans hD29.len lD25
          have qX28 := hD29
          try simp only [go_sem, bob, icast, byteRows_len, zeroV, fb2, fbr, fb5, ft0, lssT hlt, fb7]
          refine DW.acp [br] [] rfl rfl rfl rfl (by (try simp only [go_sem, bob, icast, byteRows_len, zeroV, fb2, fbr, fb5, ft0, lssT hlt, fb7]); rfl) rfl (text_r T br D29 B30 _ _ lD29) ?_
          rintro _ _ ⟨Y31, D32, B33, hD32, rfl, rfl⟩
          have lD32 := Nat.le_trans hD32.len lD29
          have qY31 := hD32
          try simp only [go_sem, bob, icast, byteRows_len, zeroV, fb2, fbr, fb5, ft0, lssT hlt, fb7]
          refine DW.acp [br] [] rfl rfl rfl rfl (by (try simp only [go_sem, bob, icast, byteRows_len, zeroV, fb2, fbr, fb5, ft0, lssT hlt, fb7]); rfl) rfl (text_r T br D32 B33 _ _ lD32) ?_
          rintro _ _ ⟨Z34, D35, B36, hD35, rfl, rfl⟩
          have lD35 := Nat.le_trans hD35.len lD32
          have qZ34 := hD35
          try simp only [go_sem, bob, icast, byteRows_len, zeroV, fb2, fbr, fb5, ft0, lssT hlt, fb7]
          have tX := qX28.tlen
          have tY := qY31.tlen
          have tZ := qZ34.tlen
          have hbf : bad = false := by simpa using hc1
          obtain ⟨hn1, hn2⟩ := dec_next hlt hbf h4 qK18 qG21 qN24 qX28 qY31 qZ34
          refine hK27 _ _ ?_
          try clear hK27 K27
          refine AWp.mask [true, true, true, true, true] rfl ?_
          simp only [go_sem]
          refine AWp.rk fun K37 hK37 => ?_
          try simp only [go_sem, bob, icast, byteRows_len, zeroV, fb2, fbr, fb5, ft0, lssT hlt, fb7]
          refine DW.app rfl rfl rfl rfl (show slI Tryd.prog 23 = some (56, 6, 72) by simp only [go_sem]) rfl rfl (by simp only [go_sem, bob, icast, byteRows_len, zeroV, fb2, fbr, fb5, ft0, lssT hlt, fb7]) (by first | exact .inl rfl | exact .inr rfl) (by (try simp only [go_sem, List.length_append, List.length_cons, List.length_nil, wideR_len, txS_len]); omega) (by (try simp only [go_sem, List.length_append, List.length_cons, List.length_nil, wideR_len, txS_len]); omega) fun t1 ft1 => ?_
          try simp only [freshT] at ft1
          try simp only [go_sem, bob, icast, byteRows_len, zeroV, fb2, fbr, fb5, ft0, lssT hlt, fb7, ft1]
          refine hK37 _ _ ?_
          try clear hK37 K37
          refine blkQ_n (thenQ_n ?_)
          refine EndS.mk [true, true, true, true] [] [b7] [] [br, b5, b2] [t1] rfl ?_ ?_
          · (try simp only [go_sem, bob, icast, byteRows_len, zeroV, fb2, fbr, fb5, ft0, lssT hlt, fb7, ft1]) <;> try rfl
          refine .e ⟨_, ?_, D35, B36, (acc ++ [⟨K18, X28, N24, G21, Y31, Z34⟩]), t1, rfl, ?_, ?_, ?_, ?_, ?_, ?_, ?_⟩
          · first | omega | (simp; omega) | (grind)
          · (try simp only [go_sem, bob, icast, byteRows_len, zeroV, fb2, fbr, fb5, ft0, lssT hlt, fb7, ft1]) <;> first | exact ⟨rfl⟩ | (constructor; simp; done)
          · (try simp only [go_sem, bob, icast, byteRows_len, zeroV, fb2, fbr, fb5, ft0, lssT hlt, fb7, ft1]) <;> first | exact ⟨rfl⟩ | (constructor; simp [bob, entsD, entD]; done)
          all_goals first | omega | exact hn1 | exact hn2 | (simp only [List.length_append, List.length_singleton]; omega) | (intro x hx; rcases List.mem_append.1 hx with hx | hx <;> first | exact h3 x hx | (rw [List.mem_singleton.1 hx]; exact ⟨by dsimp only; omega, by dsimp only; omega, by dsimp only; omega⟩))
        · skip
          try simp only [decide_eq_true_eq, decide_eq_false_iff_not, Bool.not_eq_true', Bool.not_eq_false', Bool.and_eq_true, Bool.or_eq_true, Bool.and_eq_false_iff, Bool.or_eq_false_iff, Int.not_lt, Int.not_le, beq_iff_eq, beq_eq_false_iff_ne, ne_eq, Bool.not_eq_true, Bool.not_eq_false] at hc1
          refine AWp.exit ?_
          refine thenQ_e (thenQ_e (blkQ_e (thenQ_n ?_)))
          refine hK10 _ _ ?_
          try clear hK10 K10
          refine AWp.seq fun K38 hK38 => ?_
          refine AWp.block ?_
          refine AWp.rs fun K39 hK39 => ?_
          try simp only [go_sem, bob, icast, byteRows_len, zeroV, fb2, fbr, fb5, ft0, lssT hlt]
          refine hK39 _ _ ?_
          try clear hK39 K39
          refine AWp.mask [true, true, true, false, false, true] rfl ?_
          simp only [go_sem]
          refine AWp.cond _ rfl (fun hc2 => ?_) (fun hc2 => ?_)
          · skip
            have hn := h5 (by simpa using hc2)
            refine AWp.rs fun K40 hK40 => ?_
            try simp only [go_sem, bob, icast, byteRows_len, zeroV, fb2, fbr, fb5, ft0, lssT hlt]
            refine hK40 _ _ ?_
            try clear hK40 K40
            refine AWp.mask [true, true] rfl ?_
            simp only [go_sem]
            refine AWp.ret ?_
            try simp only [go_sem, bob, icast, byteRows_len, zeroV, fb2, fbr, fb5, ft0, lssT hlt]
            rw [decV_4 lD hn]; simp [zeroV, LeA, LeL, LeD]
          · skip
            have hbf : bad = false := by simpa using hc2
            have hfull : C12 ≤ acc.length := by first | exact hge | (simp_all; done)
            have hn := (h4 hbf).trans (ents_done hfull U7)
            refine AWp.rs fun K41 hK41 => ?_
            try simp only [go_sem, bob, icast, byteRows_len, zeroV, fb2, fbr, fb5, ft0, lssT hlt]
            refine hK41 _ _ ?_
            try clear hK41 K41
            refine AWp.mask [true, false, true, false, true] rfl ?_
            simp only [go_sem]
            refine AWp.cond _ rfl (fun hc3 => ?_) (fun hc3 => ?_)
            · skip
              try simp only [decide_eq_true_eq, decide_eq_false_iff_not, Bool.not_eq_true', Bool.not_eq_false', Bool.and_eq_true, Bool.or_eq_true, Bool.and_eq_false_iff, Bool.or_eq_false_iff, Int.not_lt, Int.not_le, beq_iff_eq, beq_eq_false_iff_ne, ne_eq, Bool.not_eq_true, Bool.not_eq_false] at hc3
              refine AWp.rs fun K42 hK42 => ?_
              try simp only [go_sem, bob, icast, byteRows_len, zeroV, fb2, fbr, fb5, ft0, lssT hlt]
              refine hK42 _ _ ?_
              try clear hK42 K42
              refine AWp.ret ?_
              try simp only [go_sem, bob, icast, byteRows_len, zeroV, fb2, fbr, fb5, ft0, lssT hlt]
              rw [decV_3 lD hn (by omega)]; simp [zeroV, LeA, LeL, LeD]
            · skip
              try simp only [decide_eq_true_eq, decide_eq_false_iff_not, Bool.not_eq_true', Bool.not_eq_false', Bool.and_eq_true, Bool.or_eq_true, Bool.and_eq_false_iff, Bool.or_eq_false_iff, Int.not_lt, Int.not_le, beq_iff_eq, beq_eq_false_iff_ne, ne_eq, Bool.not_eq_true, Bool.not_eq_false] at hc3
              refine AWp.skip ?_
              refine blkQ_n (thenQ_n ?_)
              refine hK38 _ _ ?_
              try clear hK38 K38
              refine AWp.seq fun K43 hK43 => ?_
              refine AWp.wkH [bob br d bad, (b5, ⟨2, 1, [[.d (.int .i64 (U7 : Nat)), .d (.slc 6 (entsD acc))]]⟩), (b2, ⟨2, 1, [[.d (.int .i64 0), .nils]]⟩)] (by simp [LeObs, LeRows, LeA, LeL, LeD, AV.one, bob]) ?_
              · skip
                refine AWp.rs fun K44 hK44 => ?_
                try simp only [go_sem, bob, icast, byteRows_len, zeroV, fb2, fbr, fb5, ft0, lssT hlt]
                refine DW.pcr rfl rfl rfl rfl (Check_c T hL U7 acc h3) rfl rfl ?_
                try simp only [go_sem, bob, icast, byteRows_len, zeroV, fb2, fbr, fb5, ft0, lssT hlt]
                refine hK44 _ _ ?_
                try clear hK44 K44
                refine AWp.rs fun K45 hK45 => ?_
                try simp only [go_sem, bob, icast, byteRows_len, zeroV, fb2, fbr, fb5, ft0, lssT hlt]
                refine hK45 _ _ ?_
                try clear hK45 K45
                refine AWp.mask [true, true, true, false, false, false, false, true] rfl ?_
                simp only [go_sem]
                refine AWp.cond _ rfl (fun hc4 => ?_) (fun hc4 => ?_)
                · skip
                  try simp only [decide_eq_true_eq, decide_eq_false_iff_not, Bool.not_eq_true', Bool.not_eq_false', Bool.and_eq_true, Bool.or_eq_true, Bool.and_eq_false_iff, Bool.or_eq_false_iff, Int.not_lt, Int.not_le, beq_iff_eq, beq_eq_false_iff_ne, ne_eq, Bool.not_eq_true, Bool.not_eq_false] at hc4
                  refine AWp.rs fun K46 hK46 => ?_
                  try simp only [go_sem, bob, icast, byteRows_len, zeroV, fb2, fbr, fb5, ft0, lssT hlt]
                  refine hK46 _ _ ?_
                  try clear hK46 K46
                  refine AWp.mask [true, true] rfl ?_
                  simp only [go_sem]
                  refine AWp.ret ?_
                  try simp only [go_sem, bob, icast, byteRows_len, zeroV, fb2, fbr, fb5, ft0, lssT hlt]
                  rw [decV_e lD hn (by omega) hc4]; simp [zeroV, LeA, LeL, LeD]
                · skip
                  try simp only [decide_eq_true_eq, decide_eq_false_iff_not, Bool.not_eq_true', Bool.not_eq_false', Bool.and_eq_true, Bool.or_eq_true, Bool.and_eq_false_iff, Bool.or_eq_false_iff, Int.not_lt, Int.not_le, beq_iff_eq, beq_eq_false_iff_ne, ne_eq, Bool.not_eq_true, Bool.not_eq_false] at hc4
                  refine AWp.skip ?_
                  refine thenQ_n ?_
                  refine hK43 _ _ ?_
                  try clear hK43 K43
                  refine AWp.rs fun K47 hK47 => ?_
                  try simp only [go_sem, bob, icast, byteRows_len, zeroV, fb2, fbr, fb5, ft0, lssT hlt]
                  refine hK47 _ _ ?_
                  try clear hK47 K47
                  refine AWp.mask [true, true] rfl ?_
                  simp only [go_sem]
                  refine AWp.ret ?_
                  try simp only [go_sem, bob, icast, byteRows_len, zeroV, fb2, fbr, fb5, ft0, lssT hlt]
                  rw [decV_0 lD hn (by omega) hc4]; simp [LeA, LeL, LeD]
      · skip
        refine AWp.rs fun K16 hK16 => ?_
        try simp only [go_sem, bob, icast, byteRows_len, zeroV, fb2, fbr, fb5, ft0, lssF hge]
        refine hK16 _ _ ?_
        try clear hK16 K16
        refine AWp.mask [true, true, true, true, false, false, false, false, false, false, false, false, false, false, false, true] rfl ?_
        simp only [go_sem]
        refine AWp.cond _ rfl (fun hc1 => ?_) (fun hc1 => ?_)
        · skip
          exact absurd hc1 (by simp)
        · skip
          try simp only [decide_eq_true_eq, decide_eq_false_iff_not, Bool.not_eq_true', Bool.not_eq_false', Bool.and_eq_true, Bool.or_eq_true, Bool.and_eq_false_iff, Bool.or_eq_false_iff, Int.not_lt, Int.not_le, beq_iff_eq, beq_eq_false_iff_ne, ne_eq, Bool.not_eq_true, Bool.not_eq_false] at hc1
          refine AWp.exit ?_
          refine thenQ_e (thenQ_e (blkQ_e (thenQ_n ?_)))
          refine hK10 _ _ ?_
          try clear hK10 K10
          refine AWp.seq fun K48 hK48 => ?_
          refine AWp.block ?_
          refine AWp.rs fun K49 hK49 => ?_
          try simp only [go_sem, bob, icast, byteRows_len, zeroV, fb2, fbr, fb5, ft0, lssF hge]
          refine hK49 _ _ ?_
          try clear hK49 K49
          refine AWp.mask [true, true, true, false, false, true] rfl ?_
          simp only [go_sem]
          refine AWp.cond _ rfl (fun hc2 => ?_) (fun hc2 => ?_)
          · skip
            have hn := h5 (by simpa using hc2)
            refine AWp.rs fun K50 hK50 => ?_
            try simp only [go_sem, bob, icast, byteRows_len, zeroV, fb2, fbr, fb5, ft0, lssF hge]
            refine hK50 _ _ ?_
            try clear hK50 K50
            refine AWp.mask [true, true] rfl ?_
            simp only [go_sem]
            refine AWp.ret ?_
            try simp only [go_sem, bob, icast, byteRows_len, zeroV, fb2, fbr, fb5, ft0, lssF hge]
            rw [decV_4 lD hn]; simp [zeroV, LeA, LeL, LeD]
          · skip
            have hbf : bad = false := by simpa using hc2
            have hfull : C12 ≤ acc.length := by first | exact hge | (simp_all; done)
            have hn := (h4 hbf).trans (ents_done hfull U7)
            refine AWp.rs fun K51 hK51 => ?_
            try simp only [go_sem, bob, icast, byteRows_len, zeroV, fb2, fbr, fb5, ft0, lssF hge]
            refine hK51 _ _ ?_
            try clear hK51 K51
            refine AWp.mask [true, false, true, false, true] rfl ?_
            simp only [go_sem]
            refine AWp.cond _ rfl (fun hc3 => ?_) (fun hc3 => ?_)
            · skip
              try simp only [decide_eq_true_eq, decide_eq_false_iff_not, Bool.not_eq_true', Bool.not_eq_false', Bool.and_eq_true, Bool.or_eq_true, Bool.and_eq_false_iff, Bool.or_eq_false_iff, Int.not_lt, Int.not_le, beq_iff_eq, beq_eq_false_iff_ne, ne_eq, Bool.not_eq_true, Bool.not_eq_false] at hc3
              refine AWp.rs fun K52 hK52 => ?_
              try simp only [go_sem, bob, icast, byteRows_len, zeroV, fb2, fbr, fb5, ft0, lssF hge]
              refine hK52 _ _ ?_
              try clear hK52 K52
              refine AWp.ret ?_
              try simp only [go_sem, bob, icast, byteRows_len, zeroV, fb2, fbr, fb5, ft0, lssF hge]
              rw [decV_3 lD hn (by omega)]; simp [zeroV, LeA, LeL, LeD]
            · skip
              try simp only [decide_eq_true_eq, decide_eq_false_iff_not, Bool.not_eq_true', Bool.not_eq_false', Bool.and_eq_true, Bool.or_eq_true, Bool.and_eq_false_iff, Bool.or_eq_false_iff, Int.not_lt, Int.not_le, beq_iff_eq, beq_eq_false_iff_ne, ne_eq, Bool.not_eq_true, Bool.not_eq_false] at hc3
              refine AWp.skip ?_
              refine blkQ_n (thenQ_n ?_)
              refine hK48 _ _ ?_
              try clear hK48 K48
              refine AWp.seq fun K53 hK53 => ?_
              refine AWp.wkH [bob br d bad, (b5, ⟨2, 1, [[.d (.int .i64 (U7 : Nat)), .d (.slc 6 (entsD acc))]]⟩), (b2, ⟨2, 1, [[.d (.int .i64 0), .nils]]⟩)] (by simp [LeObs, LeRows, LeA, LeL, LeD, AV.one, bob]) ?_
              · skip
                refine AWp.rs fun K54 hK54 => ?_
                try simp only [go_sem, bob, icast, byteRows_len, zeroV, fb2, fbr, fb5, ft0, lssF hge]
                refine DW.pcr rfl rfl rfl rfl (Check_c T hL U7 acc h3) rfl rfl ?_
                try simp only [go_sem, bob, icast, byteRows_len, zeroV, fb2, fbr, fb5, ft0, lssF hge]
                refine hK54 _ _ ?_
                try clear hK54 K54
                refine AWp.rs fun K55 hK55 => ?_
                try simp only [go_sem, bob, icast, byteRows_len, zeroV, fb2, fbr, fb5, ft0, lssF hge]
                refine hK55 _ _ ?_
                try clear hK55 K55
                refine AWp.mask [true, true, true, false, false, false, false, true] rfl ?_
                simp only [go_sem]
                refine AWp.cond _ rfl (fun hc4 => ?_) (fun hc4 => ?_)
                · skip
                  try simp only [decide_eq_true_eq, decide_eq_false_iff_not, Bool.not_eq_true', Bool.not_eq_false', Bool.and_eq_true, Bool.or_eq_true, Bool.and_eq_false_iff, Bool.or_eq_false_iff, Int.not_lt, Int.not_le, beq_iff_eq, beq_eq_false_iff_ne, ne_eq, Bool.not_eq_true, Bool.not_eq_false] at hc4
                  refine AWp.rs fun K56 hK56 => ?_
                  try simp only [go_sem, bob, icast, byteRows_len, zeroV, fb2, fbr, fb5, ft0, lssF hge]
                  refine hK56 _ _ ?_
                  try clear hK56 K56
                  refine AWp.mask [true, true] rfl ?_
                  simp only [go_sem]
                  refine AWp.ret ?_
                  try simp only [go_sem, bob, icast, byteRows_len, zeroV, fb2, fbr, fb5, ft0, lssF hge]
                  rw [decV_e lD hn (by omega) hc4]; simp [zeroV, LeA, LeL, LeD]
                · skip
                  try simp only [decide_eq_true_eq, decide_eq_false_iff_not, Bool.not_eq_true', Bool.not_eq_false', Bool.and_eq_true, Bool.or_eq_true, Bool.and_eq_false_iff, Bool.or_eq_false_iff, Int.not_lt, Int.not_le, beq_iff_eq, beq_eq_false_iff_ne, ne_eq, Bool.not_eq_true, Bool.not_eq_false] at hc4
                  refine AWp.skip ?_
                  refine thenQ_n ?_
                  refine hK53 _ _ ?_
                  try clear hK53 K53
                  refine AWp.rs fun K57 hK57 => ?_
                  try simp only [go_sem, bob, icast, byteRows_len, zeroV, fb2, fbr, fb5, ft0, lssF hge]
                  refine hK57 _ _ ?_
                  try clear hK57 K57
                  refine AWp.mask [true, true] rfl ?_
                  simp only [go_sem]
                  refine AWp.ret ?_
                  try simp only [go_sem, bob, icast, byteRows_len, zeroV, fb2, fbr, fb5, ft0, lssF hge]
                  rw [decV_0 lD hn (by omega) hc4]; simp [LeA, LeL, LeD]
end Go.Proofs.YthhfbolhlbgbgaaDoor

namespace Go.Proofs.YthhfbolhlbgbgaaDoor
set_option linter.unusedSimpArgs false
set_option linter.unusedVariables false
theorem tn2 (i : Nat) : ((i : Int) + 2).toNat = i + 2 := rfl
theorem tn3 (i : Nat) : ((i : Int) + 3).toNat = i + 3 := rfl
theorem tn4 (i : Nat) : ((i : Int) + 4).toNat = i + 4 := rfl
theorem tn5 (i : Nat) : ((i : Int) + 5) = ((i + 5 : Nat) : Int) := rfl
theorem pieceAt_none (T : Tbl) (d : Tx) (i : Nat) (hd : d.length ≤ 100000) (hi : i ≤ 100000) (h : pieceS (d.drop i) = none) : PC Tryd.prog T 90 [.d (.slc 1 (byteRows d)), .d (.int .i64 (i : Nat))] (.tup [.d (.str []), .d (.int .i64 (-1))]) := by
  have := pieceAt_c T d i hd hi
  rw [pieceV, h] at this
  exact this
theorem pieceAt_some (T : Tbl) (d : Tx) (i : Nat) (hd : d.length ≤ 100000) (hi : i ≤ 100000) (t r : Tx) (h : pieceS (d.drop i) = some (t, r)) : PC Tryd.prog T 90 [.d (.slc 1 (byteRows d)), .d (.int .i64 (i : Nat))] (.tup [.d (.str t), .d (.int .i64 ((i + 2 + t.length : Nat) : Int))]) := by
  have := pieceAt_c T d i hd hi
  rw [pieceV, h] at this
  exact this
theorem entB_n0 {d : Tx} {i : Nat} (h : d.length < i + 5) : entB (d.drop i) = none := by unfold entB; rw [if_pos (by rw [List.length_drop]; omega)]
theorem entB_n1 {d : Tx} {i : Nat} (h : pieceS (d.drop (i + 5)) = none) : entB (d.drop i) = none := by
  unfold entB; split
  · rfl
  · rw [List.drop_drop, h]
theorem entB_n2 {d x r1 : Tx} {i : Nat} (h : pieceS (d.drop (i + 5)) = some (x, r1)) (h2 : pieceS (d.drop (i + 5 + 2 + x.length)) = none) : entB (d.drop i) = none := by
  rw [← (piece_some h).1] at h2
  unfold entB; split
  · rfl
  · rw [List.drop_drop, h]; simp only [h2]
theorem entB_n3 {d x y r1 r2 : Tx} {i : Nat} (h : pieceS (d.drop (i + 5)) = some (x, r1)) (h2 : pieceS (d.drop (i + 5 + 2 + x.length)) = some (y, r2)) (h3 : pieceS (d.drop (i + 5 + 2 + x.length + 2 + y.length)) = none) : entB (d.drop i) = none := by
  rw [← (piece_some h2).1] at h3
  rw [← (piece_some h).1] at h2
  unfold entB; split
  · rfl
  · rw [List.drop_drop, h]; simp only [h2, h3]
theorem entB_at {d x y z r1 r2 r3 : Tx} {i : Nat} (hl : i + 5 ≤ d.length) (h : pieceS (d.drop (i + 5)) = some (x, r1)) (h2 : pieceS (d.drop (i + 5 + 2 + x.length)) = some (y, r2)) (h3 : pieceS (d.drop (i + 5 + 2 + x.length + 2 + y.length)) = some (z, r3)) :
    entB (d.drop i) = some (⟨((d.getD i 0).toNat : Int), x, 65536 * ((d.getD (i + 2) 0).toNat : Int) + 256 * ((d.getD (i + 3) 0).toNat : Int) + ((d.getD (i + 4) 0).toNat : Int), ((d.getD (i + 1) 0).toNat : Int), y, z⟩, d.drop (i + 5 + 2 + x.length + 2 + y.length + 2 + z.length)) := by
  have e0 : (d.drop i).getD 0 0 = d.getD i 0 := by rw [drop_at (by omega)]; rfl
  have e1 : (d.drop i).getD 1 0 = d.getD (i + 1) 0 := by rw [drop_at (by omega), drop_at (i := i + 1) (by omega)]; rfl
  have e2 : ((d.drop i).drop 2).take 3 = [d.getD (i + 2) 0, d.getD (i + 3) 0, d.getD (i + 4) 0] := by
    rw [List.drop_drop, drop_at (i := i + 2) (by omega), drop_at (i := i + 2 + 1) (by omega), drop_at (i := i + 2 + 1 + 1) (by omega)]; rfl
  have g3 := (piece_some h3).1
  rw [← (piece_some h2).1] at h3
  rw [← (piece_some h).1] at h2
  unfold entB
  rw [if_neg (by rw [List.length_drop]; omega), e0, e1, e2, numT3, List.drop_drop, h]
  simp only [h2, h3]
  rw [g3]
  congr 3
  omega
theorem ent_next {D r : Tx} {v c i : Nat} {acc : List Ent} {x : Ent} (hlt : acc.length < c) (hi : decL D = (entsB (c - acc.length) (D.drop i)).map fun p => (v, acc ++ p.1, p.2)) (he : entB (D.drop i) = some (x, r)) : decL D = (entsB (c - (acc ++ [x]).length) r).map fun p => (v, (acc ++ [x]) ++ p.1, p.2) := by rw [hi, ents_more hlt he v]
theorem ent_none {D : Tx} {v c i : Nat} {acc : List Ent} (hlt : acc.length < c) (hi : decL D = (entsB (c - acc.length) (D.drop i)).map fun p => (v, acc ++ p.1, p.2)) (he : entB (D.drop i) = none) : decL D = none := by rw [hi, ents_off hlt he v]
theorem decL_short {D : Tx} (h : D.length < 2) : decL D = none := if_pos h
theorem decL_long {D : Tx} (h : 2 ≤ D.length) : decL D = (entsB ((D.getD 1 0).toNat - ([] : List Ent).length) (D.drop 2)).map fun p => ((D.getD 0 0).toNat, [] ++ p.1, p.2) := if_neg (by omega)
set_option maxRecDepth 4000 in
set_option maxHeartbeats 1000000 in
theorem BatchOf_c (T : Tbl) (hL : LibT T) (D : Tx) : PC Tryd.prog T 50 [.d (.slc 1 (byteRows (D)))] (decV D) := by
  refine ⟨Tryd.call50, PCall.enterS Tryd.func50 rfl Tryd.ntmps50 rfl fun hb => ?_⟩
  simp only [go_sem, Tryd.results50]
  refine AWp.rs fun K1 hK1 => ?_
  try simp only [go_sem, icast, byteRows_len, zeroV, negneg, natneg, tn2, tn3, tn4, tn5]
  intro b2
  first | intro fb2 | have fb2 := True.intro
  try simp only [freshL] at fb2
  refine hK1 _ _ ?_
  try clear hK1 K1
  refine AWp.seq fun K2 hK2 => ?_
  refine AWp.rs fun K3 hK3 => ?_
  try simp only [go_sem, icast, byteRows_len, zeroV, negneg, natneg, tn2, tn3, tn4, tn5, fb2]
  refine hK3 _ _ ?_
  try clear hK3 K3
  refine AWp.cond _ rfl (fun hc0 => ?_) (fun hc0 => ?_)
  · skip
    try simp only [decide_eq_true_eq, decide_eq_false_iff_not, Bool.not_eq_true', Bool.not_eq_false', Bool.and_eq_true, Bool.or_eq_true, Bool.and_eq_false_iff, Bool.or_eq_false_iff, Int.not_lt, Int.not_le, beq_iff_eq, beq_eq_false_iff_ne, ne_eq, Bool.not_eq_true, Bool.not_eq_false] at hc0
    refine AWp.rs fun K4 hK4 => ?_
    try simp only [go_sem, icast, byteRows_len, zeroV, negneg, natneg, tn2, tn3, tn4, tn5, fb2]
    refine hK4 _ _ ?_
    try clear hK4 K4
    refine AWp.mask [false, true, true] rfl ?_
    simp only [go_sem]
    refine AWp.ret ?_
    try simp only [go_sem, icast, byteRows_len, zeroV, negneg, natneg, tn2, tn3, tn4, tn5, fb2]
    rw [decV_1 (by omega)]; simp [zeroV, LeA, LeL, LeD]
  · skip
    try simp only [decide_eq_true_eq, decide_eq_false_iff_not, Bool.not_eq_true', Bool.not_eq_false', Bool.and_eq_true, Bool.or_eq_true, Bool.and_eq_false_iff, Bool.or_eq_false_iff, Int.not_lt, Int.not_le, beq_iff_eq, beq_eq_false_iff_ne, ne_eq, Bool.not_eq_true, Bool.not_eq_false] at hc0
    have lD : D.length ≤ 100000 := by omega
    refine AWp.skip ?_
    refine thenQ_n ?_
    refine hK2 _ _ ?_
    try clear hK2 K2
    refine AWp.mask [true, true] rfl ?_
    simp only [go_sem]
    refine AWp.seq fun K5 hK5 => ?_
    refine AWp.rs fun K6 hK6 => ?_
    try simp only [go_sem, icast, byteRows_len, zeroV, negneg, natneg, tn2, tn3, tn4, tn5, fb2]
    refine hK6 _ _ ?_
    try clear hK6 K6
    refine AWp.cond _ rfl (fun hc1 => ?_) (fun hc1 => ?_)
    · skip
      try simp only [decide_eq_true_eq, decide_eq_false_iff_not, Bool.not_eq_true', Bool.not_eq_false', Bool.and_eq_true, Bool.or_eq_true, Bool.and_eq_false_iff, Bool.or_eq_false_iff, Int.not_lt, Int.not_le, beq_iff_eq, beq_eq_false_iff_ne, ne_eq, Bool.not_eq_true, Bool.not_eq_false] at hc1
      refine AWp.rs fun K7 hK7 => ?_
      try simp only [go_sem, icast, byteRows_len, zeroV, negneg, natneg, tn2, tn3, tn4, tn5, fb2]
      refine hK7 _ _ ?_
      try clear hK7 K7
      refine AWp.mask [false, true, true] rfl ?_
      simp only [go_sem]
      refine AWp.ret ?_
      try simp only [go_sem, icast, byteRows_len, zeroV, negneg, natneg, tn2, tn3, tn4, tn5, fb2]
      rw [decV_4 lD (decL_short (by omega))]; simp [zeroV, LeA, LeL, LeD]
    · skip
      try simp only [decide_eq_true_eq, decide_eq_false_iff_not, Bool.not_eq_true', Bool.not_eq_false', Bool.and_eq_true, Bool.or_eq_true, Bool.and_eq_false_iff, Bool.or_eq_false_iff, Int.not_lt, Int.not_le, beq_iff_eq, beq_eq_false_iff_ne, ne_eq, Bool.not_eq_true, Bool.not_eq_false] at hc1
      have hD2 : 2 ≤ D.length := by omega
      refine AWp.skip ?_
      refine thenQ_n ?_
      refine hK5 _ _ ?_
      try clear hK5 K5
      refine AWp.rs fun K8 hK8 => ?_
      try simp only [go_sem, icast, byteRows_len, zeroV, negneg, natneg, tn2, tn3, tn4, tn5, fb2, byteRows_getD D 0 _ (show 0 < D.length by omega), byteRows_getD D 1 _ (show 1 < D.length by omega)]
      (repeat (with_reducible refine And.intro ?_ ?_; omega))
      intro b4
      first | intro fb4 | have fb4 := True.intro
      try simp only [freshL] at fb4
      refine hK8 _ _ ?_
      try clear hK8 K8
      refine AWp.mask [true, true, true] rfl ?_
      simp only [go_sem]
      refine AWp.ownNilH b4 0 1 6 (by (try simp only [go_sem, icast, byteRows_len, zeroV, negneg, natneg, tn2, tn3, tn4, tn5, fb2, byteRows_getD D 0 _ (show 0 < D.length by omega), byteRows_getD D 1 _ (show 1 < D.length by omega), fb4]); rfl) rfl rfl (by decide) fun t0 ft0 => ?_
      try simp only [freshT] at ft0
      simp only [go_sem, icast, byteRows_len, zeroV, negneg, natneg, tn2, tn3, tn4, tn5, fb2, byteRows_getD D 0 _ (show 0 < D.length by omega), byteRows_getD D 1 _ (show 1 < D.length by omega), fb4, ft0]
      refine AWp.rs fun K9 hK9 => ?_
      try simp only [go_sem, icast, byteRows_len, zeroV, negneg, natneg, tn2, tn3, tn4, tn5, fb2, byteRows_getD D 0 _ (show 0 < D.length by omega), byteRows_getD D 1 _ (show 1 < D.length by omega), fb4, ft0]
      refine hK9 _ _ ?_
      try clear hK9 K9
      refine AWp.seq fun K10 hK10 => ?_
      refine AWp.rs fun K11 hK11 => ?_
      try simp only [go_sem, icast, byteRows_len, zeroV, negneg, natneg, tn2, tn3, tn4, tn5, fb2, byteRows_getD D 0 _ (show 0 < D.length by omega), byteRows_getD D 1 _ (show 1 < D.length by omega), fb4, ft0]
      refine hK11 _ _ ?_
      try clear hK11 K11
      refine AWp.block ?_
      refine AWp.loopS [true, true, true] [false, false, false, true, true] (fun n lc hc => ∃ (i : Nat) (acc : List Ent) (v : Nat), n = 2 * ((D.getD 1 0).toNat - acc.length) ∧ EqS lc [(5, .d (.int .i64 i)), (6, .d (.int .i64 (acc.length)))] ∧ EqS hc (⟨[(b4, ⟨2, 1, [[.d (.int .i64 ((D.getD 0 0).toNat)), .own v 6 (entsD acc)]]⟩), (b2, ⟨2, 1, [[.d (.int .i64 0), .nils]]⟩)], [v]⟩) ∧ (i ≤ D.length) ∧ (acc.length ≤ (D.getD 1 0).toNat) ∧ (∀ x ∈ acc, EntOk x) ∧ (decL D = (entsB ((D.getD 1 0).toNat - acc.length) (D.drop i)).map (fun p => ((D.getD 0 0).toNat, acc ++ p.1, p.2)))) rfl ?_ ?_
      · refine ⟨_, 2, [], t0, rfl, ?_, ?_, ?_, ?_, ?_, ?_⟩
        · (try simp only [go_sem, icast, byteRows_len, zeroV, negneg, natneg, tn2, tn3, tn4, tn5, fb2, byteRows_getD D 0 _ (show 0 < D.length by omega), byteRows_getD D 1 _ (show 1 < D.length by omega), fb4, ft0]) <;> first | exact ⟨rfl⟩ | (constructor; simp; done)
        · (try simp only [go_sem, icast, byteRows_len, zeroV, negneg, natneg, tn2, tn3, tn4, tn5, fb2, byteRows_getD D 0 _ (show 0 < D.length by omega), byteRows_getD D 1 _ (show 1 < D.length by omega), fb4, ft0]) <;> first | exact ⟨rfl⟩ | (constructor; rfl)
        all_goals (first | omega | exact decL_long hD2 | (simp; done))
      · rintro _ _ _ ⟨i, acc, v, rfl, ⟨rfl⟩, ⟨rfl⟩, h1, h2, h3, h4⟩
        simp only [go_sem]
        refine AWp.seq fun K12 hK12 => ?_
        refine AWp.rs fun K13 hK13 => ?_
        try simp only [go_sem, icast, byteRows_len, zeroV, negneg, natneg, tn2, tn3, tn4, tn5, fb2, byteRows_getD D 0 _ (show 0 < D.length by omega), byteRows_getD D 1 _ (show 1 < D.length by omega), fb4, ft0]
        (repeat (with_reducible refine And.intro ?_ ?_; omega))
        refine hK13 _ _ ?_
        try clear hK13 K13
        refine AWp.mask [true, true, true, true, true, false, false, false, false, false, true] rfl ?_
        simp only [go_sem]
        refine AWp.cond _ rfl (fun hc2 => ?_) (fun hc2 => ?_)
        · skip
          try simp only [decide_eq_true_eq, decide_eq_false_iff_not, Bool.not_eq_true', Bool.not_eq_false', Bool.and_eq_true, Bool.or_eq_true, Bool.and_eq_false_iff, Bool.or_eq_false_iff, Int.not_lt, Int.not_le, beq_iff_eq, beq_eq_false_iff_ne, ne_eq, Bool.not_eq_true, Bool.not_eq_false] at hc2
          have hlt : acc.length < (D.getD 1 0).toNat := by omega
          have hC := u8_lt (D.getD 1 0)
          refine AWp.skip ?_
          refine thenQ_n ?_
          refine hK12 _ _ ?_
          try clear hK12 K12
          refine AWp.seq fun K14 hK14 => ?_
          refine AWp.block ?_
          refine AWp.seq fun K15 hK15 => ?_
          refine AWp.rs fun K16 hK16 => ?_
          try simp only [go_sem, icast, byteRows_len, zeroV, negneg, natneg, tn2, tn3, tn4, tn5, fb2, byteRows_getD D 0 _ (show 0 < D.length by omega), byteRows_getD D 1 _ (show 1 < D.length by omega), fb4, ft0]
          (repeat (with_reducible refine And.intro ?_ ?_; omega))
          refine hK16 _ _ ?_
          try clear hK16 K16
          refine AWp.mask [true, true, true, true, true, false, false, false, false, false, true] rfl ?_
          simp only [go_sem]
          refine AWp.cond _ rfl (fun hc3 => ?_) (fun hc3 => ?_)
          · skip
            try simp only [decide_eq_true_eq, decide_eq_false_iff_not, Bool.not_eq_true', Bool.not_eq_false', Bool.and_eq_true, Bool.or_eq_true, Bool.and_eq_false_iff, Bool.or_eq_false_iff, Int.not_lt, Int.not_le, beq_iff_eq, beq_eq_false_iff_ne, ne_eq, Bool.not_eq_true, Bool.not_eq_false] at hc3
            refine AWp.rs fun K17 hK17 => ?_
            try simp only [go_sem, icast, byteRows_len, zeroV, negneg, natneg, tn2, tn3, tn4, tn5, fb2, byteRows_getD D 0 _ (show 0 < D.length by omega), byteRows_getD D 1 _ (show 1 < D.length by omega), fb4, ft0]
            refine hK17 _ _ ?_
            try clear hK17 K17
            refine AWp.mask [false, true, true] rfl ?_
            simp only [go_sem]
            refine AWp.ret ?_
            try simp only [go_sem, icast, byteRows_len, zeroV, negneg, natneg, tn2, tn3, tn4, tn5, fb2, byteRows_getD D 0 _ (show 0 < D.length by omega), byteRows_getD D 1 _ (show 1 < D.length by omega), fb4, ft0]
            rw [decV_4 lD (ent_none hlt h4 (entB_n0 (by omega)))]; simp [zeroV, LeA, LeL, LeD]
          · skip
            try simp only [decide_eq_true_eq, decide_eq_false_iff_not, Bool.not_eq_true', Bool.not_eq_false', Bool.and_eq_true, Bool.or_eq_true, Bool.and_eq_false_iff, Bool.or_eq_false_iff, Int.not_lt, Int.not_le, beq_iff_eq, beq_eq_false_iff_ne, ne_eq, Bool.not_eq_true, Bool.not_eq_false] at hc3
            have h5 : i + 5 ≤ D.length := by omega
            have u2 := u8_lt (D.getD (i + 2) 0)
            have u3 := u8_lt (D.getD (i + 3) 0)
            have u4 := u8_lt (D.getD (i + 4) 0)
            refine AWp.skip ?_
            refine thenQ_n ?_
            refine hK15 _ _ ?_
            try clear hK15 K15
            refine AWp.dsF false [0, 1, 2, 5, 6, 7, 8, 11, 12, 13, 14, 18, 19, 20, 21, 26, 27, 28, 29] [3, 9, 15, 22, 30] [4, 10, 16, 17, 23, 24, 25, 31, 32, 33, 34, 35] rfl (by kernel_rfl) fun K18 hK18 => ?_
            try simp only [go_sem, icast, byteRows_len, zeroV, negneg, natneg, tn2, tn3, tn4, tn5, fb2, byteRows_getD D 0 _ (show 0 < D.length by omega), byteRows_getD D 1 _ (show 1 < D.length by omega), fb4, ft0, byteRows_getD D i _ (show i < D.length by omega), byteRows_getD D (i + 1) _ (show i + 1 < D.length by omega), byteRows_getD D (i + 2) _ (show i + 2 < D.length by omega), byteRows_getD D (i + 3) _ (show i + 3 < D.length by omega), byteRows_getD D (i + 4) _ (show i + 4 < D.length by omega)]
            (repeat (with_reducible refine And.intro ?_ ?_; omega))
            try with_reducible refine Exists.intro _ (And.intro (fun _ => (by first | rfl | (simp only [go_sem, icast, byteRows_len, zeroV, negneg, natneg, tn2, tn3, tn4, tn5, fb2, byteRows_getD D 0 _ (show 0 < D.length by omega), byteRows_getD D 1 _ (show 1 < D.length by omega), fb4, ft0, byteRows_getD D i _ (show i < D.length by omega), byteRows_getD D (i + 1) _ (show i + 1 < D.length by omega), byteRows_getD D (i + 2) _ (show i + 2 < D.length by omega), byteRows_getD D (i + 3) _ (show i + 3 < D.length by omega), byteRows_getD D (i + 4) _ (show i + 4 < D.length by omega)]; first | done | rfl | exact ⟨by omega, rfl⟩))) ?_)
            try simp only [go_sem, icast, byteRows_len, zeroV, negneg, natneg, tn2, tn3, tn4, tn5, fb2, byteRows_getD D 0 _ (show 0 < D.length by omega), byteRows_getD D 1 _ (show 1 < D.length by omega), fb4, ft0, byteRows_getD D i _ (show i < D.length by omega), byteRows_getD D (i + 1) _ (show i + 1 < D.length by omega), byteRows_getD D (i + 2) _ (show i + 2 < D.length by omega), byteRows_getD D (i + 3) _ (show i + 3 < D.length by omega), byteRows_getD D (i + 4) _ (show i + 4 < D.length by omega)]
            try with_reducible refine Exists.intro _ (And.intro (fun _ => (by first | rfl | (simp only [go_sem, icast, byteRows_len, zeroV, negneg, natneg, tn2, tn3, tn4, tn5, fb2, byteRows_getD D 0 _ (show 0 < D.length by omega), byteRows_getD D 1 _ (show 1 < D.length by omega), fb4, ft0, byteRows_getD D i _ (show i < D.length by omega), byteRows_getD D (i + 1) _ (show i + 1 < D.length by omega), byteRows_getD D (i + 2) _ (show i + 2 < D.length by omega), byteRows_getD D (i + 3) _ (show i + 3 < D.length by omega), byteRows_getD D (i + 4) _ (show i + 4 < D.length by omega)]; first | done | rfl | exact ⟨by omega, rfl⟩))) ?_)
            try simp only [go_sem, icast, byteRows_len, zeroV, negneg, natneg, tn2, tn3, tn4, tn5, fb2, byteRows_getD D 0 _ (show 0 < D.length by omega), byteRows_getD D 1 _ (show 1 < D.length by omega), fb4, ft0, byteRows_getD D i _ (show i < D.length by omega), byteRows_getD D (i + 1) _ (show i + 1 < D.length by omega), byteRows_getD D (i + 2) _ (show i + 2 < D.length by omega), byteRows_getD D (i + 3) _ (show i + 3 < D.length by omega), byteRows_getD D (i + 4) _ (show i + 4 < D.length by omega)]
            try with_reducible refine Exists.intro _ (And.intro (fun _ => (by first | rfl | (simp only [go_sem, icast, byteRows_len, zeroV, negneg, natneg, tn2, tn3, tn4, tn5, fb2, byteRows_getD D 0 _ (show 0 < D.length by omega), byteRows_getD D 1 _ (show 1 < D.length by omega), fb4, ft0, byteRows_getD D i _ (show i < D.length by omega), byteRows_getD D (i + 1) _ (show i + 1 < D.length by omega), byteRows_getD D (i + 2) _ (show i + 2 < D.length by omega), byteRows_getD D (i + 3) _ (show i + 3 < D.length by omega), byteRows_getD D (i + 4) _ (show i + 4 < D.length by omega)]; first | done | rfl | exact ⟨by omega, rfl⟩))) ?_)
            try simp only [go_sem, icast, byteRows_len, zeroV, negneg, natneg, tn2, tn3, tn4, tn5, fb2, byteRows_getD D 0 _ (show 0 < D.length by omega), byteRows_getD D 1 _ (show 1 < D.length by omega), fb4, ft0, byteRows_getD D i _ (show i < D.length by omega), byteRows_getD D (i + 1) _ (show i + 1 < D.length by omega), byteRows_getD D (i + 2) _ (show i + 2 < D.length by omega), byteRows_getD D (i + 3) _ (show i + 3 < D.length by omega), byteRows_getD D (i + 4) _ (show i + 4 < D.length by omega)]
            try with_reducible refine Exists.intro _ (And.intro (fun _ => (by first | rfl | (simp only [go_sem, icast, byteRows_len, zeroV, negneg, natneg, tn2, tn3, tn4, tn5, fb2, byteRows_getD D 0 _ (show 0 < D.length by omega), byteRows_getD D 1 _ (show 1 < D.length by omega), fb4, ft0, byteRows_getD D i _ (show i < D.length by omega), byteRows_getD D (i + 1) _ (show i + 1 < D.length by omega), byteRows_getD D (i + 2) _ (show i + 2 < D.length by omega), byteRows_getD D (i + 3) _ (show i + 3 < D.length by omega), byteRows_getD D (i + 4) _ (show i + 4 < D.length by omega)]; first | done | rfl | exact ⟨by omega, rfl⟩))) ?_)
            try simp only [go_sem, icast, byteRows_len, zeroV, negneg, natneg, tn2, tn3, tn4, tn5, fb2, byteRows_getD D 0 _ (show 0 < D.length by omega), byteRows_getD D 1 _ (show 1 < D.length by omega), fb4, ft0, byteRows_getD D i _ (show i < D.length by omega), byteRows_getD D (i + 1) _ (show i + 1 < D.length by omega), byteRows_getD D (i + 2) _ (show i + 2 < D.length by omega), byteRows_getD D (i + 3) _ (show i + 3 < D.length by omega), byteRows_getD D (i + 4) _ (show i + 4 < D.length by omega)]
            try with_reducible refine Exists.intro _ (And.intro (fun _ => (by first | rfl | (simp only [go_sem, icast, byteRows_len, zeroV, negneg, natneg, tn2, tn3, tn4, tn5, fb2, byteRows_getD D 0 _ (show 0 < D.length by omega), byteRows_getD D 1 _ (show 1 < D.length by omega), fb4, ft0, byteRows_getD D i _ (show i < D.length by omega), byteRows_getD D (i + 1) _ (show i + 1 < D.length by omega), byteRows_getD D (i + 2) _ (show i + 2 < D.length by omega), byteRows_getD D (i + 3) _ (show i + 3 < D.length by omega), byteRows_getD D (i + 4) _ (show i + 4 < D.length by omega)]; first | done | rfl | exact ⟨by omega, rfl⟩))) ?_)
            try simp only [go_sem, icast, byteRows_len, zeroV, negneg, natneg, tn2, tn3, tn4, tn5, fb2, byteRows_getD D 0 _ (show 0 < D.length by omega), byteRows_getD D 1 _ (show 1 < D.length by omega), fb4, ft0, byteRows_getD D i _ (show i < D.length by omega), byteRows_getD D (i + 1) _ (show i + 1 < D.length by omega), byteRows_getD D (i + 2) _ (show i + 2 < D.length by omega), byteRows_getD D (i + 3) _ (show i + 3 < D.length by omega), byteRows_getD D (i + 4) _ (show i + 4 < D.length by omega)]
            (repeat (with_reducible refine And.intro ?_ ?_; omega))
            intro b7
            first | intro fb7 | have fb7 := True.intro
            try simp only [freshL] at fb7
            refine hK18 _ _ ?_
            try clear hK18 K18
            refine AWp.mask [true, true, true, true, true, true] rfl ?_
            simp only [go_sem]
            refine AWp.rs fun K19 hK19 => ?_
            try simp only [go_sem, icast, byteRows_len, zeroV, negneg, natneg, tn2, tn3, tn4, tn5, fb2, byteRows_getD D 0 _ (show 0 < D.length by omega), byteRows_getD D 1 _ (show 1 < D.length by omega), fb4, ft0, byteRows_getD D i _ (show i < D.length by omega), byteRows_getD D (i + 1) _ (show i + 1 < D.length by omega), byteRows_getD D (i + 2) _ (show i + 2 < D.length by omega), byteRows_getD D (i + 3) _ (show i + 3 < D.length by omega), byteRows_getD D (i + 4) _ (show i + 4 < D.length by omega), fb7]
            (repeat (with_reducible refine And.intro ?_ ?_; omega))
            refine hK19 _ _ ?_
            try clear hK19 K19
            rcases hp : pieceS (D.drop (i + 5)) with _ | ⟨x, r⟩
            · skip
              have he := entB_n1 hp
              refine AWp.rs fun K20 hK20 => ?_
              try simp only [go_sem, icast, byteRows_len, zeroV, negneg, natneg, tn2, tn3, tn4, tn5, fb2, byteRows_getD D 0 _ (show 0 < D.length by omega), byteRows_getD D 1 _ (show 1 < D.length by omega), fb4, ft0, byteRows_getD D i _ (show i < D.length by omega), byteRows_getD D (i + 1) _ (show i + 1 < D.length by omega), byteRows_getD D (i + 2) _ (show i + 2 < D.length by omega), byteRows_getD D (i + 3) _ (show i + 3 < D.length by omega), byteRows_getD D (i + 4) _ (show i + 4 < D.length by omega), fb7]
              refine DW.pcr rfl rfl rfl rfl (pieceAt_none T D (i + 5) lD (by omega) hp) rfl rfl ?_
              try simp only [go_sem, icast, byteRows_len, zeroV, negneg, natneg, tn2, tn3, tn4, tn5, fb2, byteRows_getD D 0 _ (show 0 < D.length by omega), byteRows_getD D 1 _ (show 1 < D.length by omega), fb4, ft0, byteRows_getD D i _ (show i < D.length by omega), byteRows_getD D (i + 1) _ (show i + 1 < D.length by omega), byteRows_getD D (i + 2) _ (show i + 2 < D.length by omega), byteRows_getD D (i + 3) _ (show i + 3 < D.length by omega), byteRows_getD D (i + 4) _ (show i + 4 < D.length by omega), fb7]
              refine hK20 _ _ ?_
              try clear hK20 K20
              refine AWp.mask [true, true, true, true, true, true] rfl ?_
              simp only [go_sem]
              refine AWp.rs fun K21 hK21 => ?_
              try simp only [go_sem, icast, byteRows_len, zeroV, negneg, natneg, tn2, tn3, tn4, tn5, fb2, byteRows_getD D 0 _ (show 0 < D.length by omega), byteRows_getD D 1 _ (show 1 < D.length by omega), fb4, ft0, byteRows_getD D i _ (show i < D.length by omega), byteRows_getD D (i + 1) _ (show i + 1 < D.length by omega), byteRows_getD D (i + 2) _ (show i + 2 < D.length by omega), byteRows_getD D (i + 3) _ (show i + 3 < D.length by omega), byteRows_getD D (i + 4) _ (show i + 4 < D.length by omega), fb7]
              refine DW.pcr rfl rfl rfl rfl (pieceAt_neg T D) rfl rfl ?_
              try simp only [go_sem, icast, byteRows_len, zeroV, negneg, natneg, tn2, tn3, tn4, tn5, fb2, byteRows_getD D 0 _ (show 0 < D.length by omega), byteRows_getD D 1 _ (show 1 < D.length by omega), fb4, ft0, byteRows_getD D i _ (show i < D.length by omega), byteRows_getD D (i + 1) _ (show i + 1 < D.length by omega), byteRows_getD D (i + 2) _ (show i + 2 < D.length by omega), byteRows_getD D (i + 3) _ (show i + 3 < D.length by omega), byteRows_getD D (i + 4) _ (show i + 4 < D.length by omega), fb7]
              refine hK21 _ _ ?_
              try clear hK21 K21
              refine AWp.mask [true, true, true, true, true, true] rfl ?_
              simp only [go_sem]
              refine AWp.rs fun K22 hK22 => ?_
              try simp only [go_sem, icast, byteRows_len, zeroV, negneg, natneg, tn2, tn3, tn4, tn5, fb2, byteRows_getD D 0 _ (show 0 < D.length by omega), byteRows_getD D 1 _ (show 1 < D.length by omega), fb4, ft0, byteRows_getD D i _ (show i < D.length by omega), byteRows_getD D (i + 1) _ (show i + 1 < D.length by omega), byteRows_getD D (i + 2) _ (show i + 2 < D.length by omega), byteRows_getD D (i + 3) _ (show i + 3 < D.length by omega), byteRows_getD D (i + 4) _ (show i + 4 < D.length by omega), fb7]
              refine DW.pcr rfl rfl rfl rfl (pieceAt_neg T D) rfl rfl ?_
              try simp only [go_sem, icast, byteRows_len, zeroV, negneg, natneg, tn2, tn3, tn4, tn5, fb2, byteRows_getD D 0 _ (show 0 < D.length by omega), byteRows_getD D 1 _ (show 1 < D.length by omega), fb4, ft0, byteRows_getD D i _ (show i < D.length by omega), byteRows_getD D (i + 1) _ (show i + 1 < D.length by omega), byteRows_getD D (i + 2) _ (show i + 2 < D.length by omega), byteRows_getD D (i + 3) _ (show i + 3 < D.length by omega), byteRows_getD D (i + 4) _ (show i + 4 < D.length by omega), fb7]
              refine hK22 _ _ ?_
              try clear hK22 K22
              refine AWp.mask [true, true, true, true, true, true] rfl ?_
              simp only [go_sem]
              refine AWp.seq fun K23 hK23 => ?_
              refine AWp.rs fun K24 hK24 => ?_
              try simp only [go_sem, icast, byteRows_len, zeroV, negneg, natneg, tn2, tn3, tn4, tn5, fb2, byteRows_getD D 0 _ (show 0 < D.length by omega), byteRows_getD D 1 _ (show 1 < D.length by omega), fb4, ft0, byteRows_getD D i _ (show i < D.length by omega), byteRows_getD D (i + 1) _ (show i + 1 < D.length by omega), byteRows_getD D (i + 2) _ (show i + 2 < D.length by omega), byteRows_getD D (i + 3) _ (show i + 3 < D.length by omega), byteRows_getD D (i + 4) _ (show i + 4 < D.length by omega), fb7]
              refine hK24 _ _ ?_
              try clear hK24 K24
              refine AWp.cond _ rfl (fun hc4 => ?_) (fun hc4 => ?_)
              · skip
                try simp only [decide_eq_true_eq, decide_eq_false_iff_not, Bool.not_eq_true', Bool.not_eq_false', Bool.and_eq_true, Bool.or_eq_true, Bool.and_eq_false_iff, Bool.or_eq_false_iff, Int.not_lt, Int.not_le, beq_iff_eq, beq_eq_false_iff_ne, ne_eq, Bool.not_eq_true, Bool.not_eq_false] at hc4
                refine AWp.rs fun K25 hK25 => ?_
                try simp only [go_sem, icast, byteRows_len, zeroV, negneg, natneg, tn2, tn3, tn4, tn5, fb2, byteRows_getD D 0 _ (show 0 < D.length by omega), byteRows_getD D 1 _ (show 1 < D.length by omega), fb4, ft0, byteRows_getD D i _ (show i < D.length by omega), byteRows_getD D (i + 1) _ (show i + 1 < D.length by omega), byteRows_getD D (i + 2) _ (show i + 2 < D.length by omega), byteRows_getD D (i + 3) _ (show i + 3 < D.length by omega), byteRows_getD D (i + 4) _ (show i + 4 < D.length by omega), fb7]
                refine hK25 _ _ ?_
                try clear hK25 K25
                refine AWp.mask [false, true, true] rfl ?_
                simp only [go_sem]
                refine AWp.ret ?_
                try simp only [go_sem, icast, byteRows_len, zeroV, negneg, natneg, tn2, tn3, tn4, tn5, fb2, byteRows_getD D 0 _ (show 0 < D.length by omega), byteRows_getD D 1 _ (show 1 < D.length by omega), fb4, ft0, byteRows_getD D i _ (show i < D.length by omega), byteRows_getD D (i + 1) _ (show i + 1 < D.length by omega), byteRows_getD D (i + 2) _ (show i + 2 < D.length by omega), byteRows_getD D (i + 3) _ (show i + 3 < D.length by omega), byteRows_getD D (i + 4) _ (show i + 4 < D.length by omega), fb7]
                rw [decV_4 lD (ent_none hlt h4 he)]; simp [zeroV, LeA, LeL, LeD]
              · skip
                exact absurd hc4 (by simp)
            · skip
              have hx := (piece_some hp).2
              refine AWp.rs fun K20 hK20 => ?_
              try simp only [go_sem, icast, byteRows_len, zeroV, negneg, natneg, tn2, tn3, tn4, tn5, fb2, byteRows_getD D 0 _ (show 0 < D.length by omega), byteRows_getD D 1 _ (show 1 < D.length by omega), fb4, ft0, byteRows_getD D i _ (show i < D.length by omega), byteRows_getD D (i + 1) _ (show i + 1 < D.length by omega), byteRows_getD D (i + 2) _ (show i + 2 < D.length by omega), byteRows_getD D (i + 3) _ (show i + 3 < D.length by omega), byteRows_getD D (i + 4) _ (show i + 4 < D.length by omega), fb7]
              refine DW.pcr rfl rfl rfl rfl (pieceAt_some T D (i + 5) lD (by omega) x r hp) rfl rfl ?_
              try simp only [go_sem, icast, byteRows_len, zeroV, negneg, natneg, tn2, tn3, tn4, tn5, fb2, byteRows_getD D 0 _ (show 0 < D.length by omega), byteRows_getD D 1 _ (show 1 < D.length by omega), fb4, ft0, byteRows_getD D i _ (show i < D.length by omega), byteRows_getD D (i + 1) _ (show i + 1 < D.length by omega), byteRows_getD D (i + 2) _ (show i + 2 < D.length by omega), byteRows_getD D (i + 3) _ (show i + 3 < D.length by omega), byteRows_getD D (i + 4) _ (show i + 4 < D.length by omega), fb7]
              refine hK20 _ _ ?_
              try clear hK20 K20
              refine AWp.mask [true, true, true, true, true, true] rfl ?_
              simp only [go_sem]
              rcases hp2 : pieceS (D.drop (i + 5 + 2 + x.length)) with _ | ⟨y, r2⟩
              · skip
                have he := entB_n2 hp hp2
                refine AWp.rs fun K26 hK26 => ?_
                try simp only [go_sem, icast, byteRows_len, zeroV, negneg, natneg, tn2, tn3, tn4, tn5, fb2, byteRows_getD D 0 _ (show 0 < D.length by omega), byteRows_getD D 1 _ (show 1 < D.length by omega), fb4, ft0, byteRows_getD D i _ (show i < D.length by omega), byteRows_getD D (i + 1) _ (show i + 1 < D.length by omega), byteRows_getD D (i + 2) _ (show i + 2 < D.length by omega), byteRows_getD D (i + 3) _ (show i + 3 < D.length by omega), byteRows_getD D (i + 4) _ (show i + 4 < D.length by omega), fb7]
                refine DW.pcr rfl rfl rfl rfl (pieceAt_none T D (i + 5 + 2 + x.length) lD (by omega) hp2) rfl rfl ?_
                try simp only [go_sem, icast, byteRows_len, zeroV, negneg, natneg, tn2, tn3, tn4, tn5, fb2, byteRows_getD D 0 _ (show 0 < D.length by omega), byteRows_getD D 1 _ (show 1 < D.length by omega), fb4, ft0, byteRows_getD D i _ (show i < D.length by omega), byteRows_getD D (i + 1) _ (show i + 1 < D.length by omega), byteRows_getD D (i + 2) _ (show i + 2 < D.length by omega), byteRows_getD D (i + 3) _ (show i + 3 < D.length by omega), byteRows_getD D (i + 4) _ (show i + 4 < D.length by omega), fb7]
                refine hK26 _ _ ?_
                try clear hK26 K26
                refine AWp.mask [true, true, true, true, true, true] rfl ?_
                simp only [go_sem]
                refine AWp.rs fun K27 hK27 => ?_
                try simp only [go_sem, icast, byteRows_len, zeroV, negneg, natneg, tn2, tn3, tn4, tn5, fb2, byteRows_getD D 0 _ (show 0 < D.length by omega), byteRows_getD D 1 _ (show 1 < D.length by omega), fb4, ft0, byteRows_getD D i _ (show i < D.length by omega), byteRows_getD D (i + 1) _ (show i + 1 < D.length by omega), byteRows_getD D (i + 2) _ (show i + 2 < D.length by omega), byteRows_getD D (i + 3) _ (show i + 3 < D.length by omega), byteRows_getD D (i + 4) _ (show i + 4 < D.length by omega), fb7]
                refine DW.pcr rfl rfl rfl rfl (pieceAt_neg T D) rfl rfl ?_
                try simp only [go_sem, icast, byteRows_len, zeroV, negneg, natneg, tn2, tn3, tn4, tn5, fb2, byteRows_getD D 0 _ (show 0 < D.length by omega), byteRows_getD D 1 _ (show 1 < D.length by omega), fb4, ft0, byteRows_getD D i _ (show i < D.length by omega), byteRows_getD D (i + 1) _ (show i + 1 < D.length by omega), byteRows_getD D (i + 2) _ (show i + 2 < D.length by omega), byteRows_getD D (i + 3) _ (show i + 3 < D.length by omega), byteRows_getD D (i + 4) _ (show i + 4 < D.length by omega), fb7]
                refine hK27 _ _ ?_
                try clear hK27 K27
                refine AWp.mask [true, true, true, true, true, true] rfl ?_
                simp only [go_sem]
                refine AWp.seq fun K28 hK28 => ?_
                refine AWp.rs fun K29 hK29 => ?_
                try simp only [go_sem, icast, byteRows_len, zeroV, negneg, natneg, tn2, tn3, tn4, tn5, fb2, byteRows_getD D 0 _ (show 0 < D.length by omega), byteRows_getD D 1 _ (show 1 < D.length by omega), fb4, ft0, byteRows_getD D i _ (show i < D.length by omega), byteRows_getD D (i + 1) _ (show i + 1 < D.length by omega), byteRows_getD D (i + 2) _ (show i + 2 < D.length by omega), byteRows_getD D (i + 3) _ (show i + 3 < D.length by omega), byteRows_getD D (i + 4) _ (show i + 4 < D.length by omega), fb7]
                refine hK29 _ _ ?_
                try clear hK29 K29
                refine AWp.cond _ rfl (fun hc4 => ?_) (fun hc4 => ?_)
                · skip
                  try simp only [decide_eq_true_eq, decide_eq_false_iff_not, Bool.not_eq_true', Bool.not_eq_false', Bool.and_eq_true, Bool.or_eq_true, Bool.and_eq_false_iff, Bool.or_eq_false_iff, Int.not_lt, Int.not_le, beq_iff_eq, beq_eq_false_iff_ne, ne_eq, Bool.not_eq_true, Bool.not_eq_false] at hc4
                  refine AWp.rs fun K30 hK30 => ?_
                  try simp only [go_sem, icast, byteRows_len, zeroV, negneg, natneg, tn2, tn3, tn4, tn5, fb2, byteRows_getD D 0 _ (show 0 < D.length by omega), byteRows_getD D 1 _ (show 1 < D.length by omega), fb4, ft0, byteRows_getD D i _ (show i < D.length by omega), byteRows_getD D (i + 1) _ (show i + 1 < D.length by omega), byteRows_getD D (i + 2) _ (show i + 2 < D.length by omega), byteRows_getD D (i + 3) _ (show i + 3 < D.length by omega), byteRows_getD D (i + 4) _ (show i + 4 < D.length by omega), fb7]
                  refine hK30 _ _ ?_
                  try clear hK30 K30
                  refine AWp.mask [false, true, true] rfl ?_
                  simp only [go_sem]
                  refine AWp.ret ?_
                  try simp only [go_sem, icast, byteRows_len, zeroV, negneg, natneg, tn2, tn3, tn4, tn5, fb2, byteRows_getD D 0 _ (show 0 < D.length by omega), byteRows_getD D 1 _ (show 1 < D.length by omega), fb4, ft0, byteRows_getD D i _ (show i < D.length by omega), byteRows_getD D (i + 1) _ (show i + 1 < D.length by omega), byteRows_getD D (i + 2) _ (show i + 2 < D.length by omega), byteRows_getD D (i + 3) _ (show i + 3 < D.length by omega), byteRows_getD D (i + 4) _ (show i + 4 < D.length by omega), fb7]
                  rw [decV_4 lD (ent_none hlt h4 he)]; simp [zeroV, LeA, LeL, LeD]
                · skip
                  exact absurd hc4 (by simp)
              · skip
                have hy := (piece_some hp2).2
                refine AWp.rs fun K26 hK26 => ?_
                try simp only [go_sem, icast, byteRows_len, zeroV, negneg, natneg, tn2, tn3, tn4, tn5, fb2, byteRows_getD D 0 _ (show 0 < D.length by omega), byteRows_getD D 1 _ (show 1 < D.length by omega), fb4, ft0, byteRows_getD D i _ (show i < D.length by omega), byteRows_getD D (i + 1) _ (show i + 1 < D.length by omega), byteRows_getD D (i + 2) _ (show i + 2 < D.length by omega), byteRows_getD D (i + 3) _ (show i + 3 < D.length by omega), byteRows_getD D (i + 4) _ (show i + 4 < D.length by omega), fb7]
                refine DW.pcr rfl rfl rfl rfl (pieceAt_some T D (i + 5 + 2 + x.length) lD (by omega) y r2 hp2) rfl rfl ?_
                try simp only [go_sem, icast, byteRows_len, zeroV, negneg, natneg, tn2, tn3, tn4, tn5, fb2, byteRows_getD D 0 _ (show 0 < D.length by omega), byteRows_getD D 1 _ (show 1 < D.length by omega), fb4, ft0, byteRows_getD D i _ (show i < D.length by omega), byteRows_getD D (i + 1) _ (show i + 1 < D.length by omega), byteRows_getD D (i + 2) _ (show i + 2 < D.length by omega), byteRows_getD D (i + 3) _ (show i + 3 < D.length by omega), byteRows_getD D (i + 4) _ (show i + 4 < D.length by omega), fb7]
                refine hK26 _ _ ?_
                try clear hK26 K26
                refine AWp.mask [true, true, true, true, true, true] rfl ?_
                simp only [go_sem]
                rcases hp3 : pieceS (D.drop (i + 5 + 2 + x.length + 2 + y.length)) with _ | ⟨z, r3⟩
                · skip
                  have he := entB_n3 hp hp2 hp3
                  refine AWp.rs fun K31 hK31 => ?_
                  try simp only [go_sem, icast, byteRows_len, zeroV, negneg, natneg, tn2, tn3, tn4, tn5, fb2, byteRows_getD D 0 _ (show 0 < D.length by omega), byteRows_getD D 1 _ (show 1 < D.length by omega), fb4, ft0, byteRows_getD D i _ (show i < D.length by omega), byteRows_getD D (i + 1) _ (show i + 1 < D.length by omega), byteRows_getD D (i + 2) _ (show i + 2 < D.length by omega), byteRows_getD D (i + 3) _ (show i + 3 < D.length by omega), byteRows_getD D (i + 4) _ (show i + 4 < D.length by omega), fb7]
                  refine DW.pcr rfl rfl rfl rfl (pieceAt_none T D (i + 5 + 2 + x.length + 2 + y.length) lD (by omega) hp3) rfl rfl ?_
                  try simp only [go_sem, icast, byteRows_len, zeroV, negneg, natneg, tn2, tn3, tn4, tn5, fb2, byteRows_getD D 0 _ (show 0 < D.length by omega), byteRows_getD D 1 _ (show 1 < D.length by omega), fb4, ft0, byteRows_getD D i _ (show i < D.length by omega), byteRows_getD D (i + 1) _ (show i + 1 < D.length by omega), byteRows_getD D (i + 2) _ (show i + 2 < D.length by omega), byteRows_getD D (i + 3) _ (show i + 3 < D.length by omega), byteRows_getD D (i + 4) _ (show i + 4 < D.length by omega), fb7]
                  refine hK31 _ _ ?_
                  try clear hK31 K31
                  refine AWp.mask [true, true, true, true, true, true] rfl ?_
                  simp only [go_sem]
                  refine AWp.seq fun K32 hK32 => ?_
                  refine AWp.rs fun K33 hK33 => ?_
                  try simp only [go_sem, icast, byteRows_len, zeroV, negneg, natneg, tn2, tn3, tn4, tn5, fb2, byteRows_getD D 0 _ (show 0 < D.length by omega), byteRows_getD D 1 _ (show 1 < D.length by omega), fb4, ft0, byteRows_getD D i _ (show i < D.length by omega), byteRows_getD D (i + 1) _ (show i + 1 < D.length by omega), byteRows_getD D (i + 2) _ (show i + 2 < D.length by omega), byteRows_getD D (i + 3) _ (show i + 3 < D.length by omega), byteRows_getD D (i + 4) _ (show i + 4 < D.length by omega), fb7]
                  refine hK33 _ _ ?_
                  try clear hK33 K33
                  refine AWp.cond _ rfl (fun hc4 => ?_) (fun hc4 => ?_)
                  · skip
                    try simp only [decide_eq_true_eq, decide_eq_false_iff_not, Bool.not_eq_true', Bool.not_eq_false', Bool.and_eq_true, Bool.or_eq_true, Bool.and_eq_false_iff, Bool.or_eq_false_iff, Int.not_lt, Int.not_le, beq_iff_eq, beq_eq_false_iff_ne, ne_eq, Bool.not_eq_true, Bool.not_eq_false] at hc4
                    refine AWp.rs fun K34 hK34 => ?_
                    try simp only [go_sem, icast, byteRows_len, zeroV, negneg, natneg, tn2, tn3, tn4, tn5, fb2, byteRows_getD D 0 _ (show 0 < D.length by omega), byteRows_getD D 1 _ (show 1 < D.length by omega), fb4, ft0, byteRows_getD D i _ (show i < D.length by omega), byteRows_getD D (i + 1) _ (show i + 1 < D.length by omega), byteRows_getD D (i + 2) _ (show i + 2 < D.length by omega), byteRows_getD D (i + 3) _ (show i + 3 < D.length by omega), byteRows_getD D (i + 4) _ (show i + 4 < D.length by omega), fb7]
                    refine hK34 _ _ ?_
                    try clear hK34 K34
                    refine AWp.mask [false, true, true] rfl ?_
                    simp only [go_sem]
                    refine AWp.ret ?_
                    try simp only [go_sem, icast, byteRows_len, zeroV, negneg, natneg, tn2, tn3, tn4, tn5, fb2, byteRows_getD D 0 _ (show 0 < D.length by omega), byteRows_getD D 1 _ (show 1 < D.length by omega), fb4, ft0, byteRows_getD D i _ (show i < D.length by omega), byteRows_getD D (i + 1) _ (show i + 1 < D.length by omega), byteRows_getD D (i + 2) _ (show i + 2 < D.length by omega), byteRows_getD D (i + 3) _ (show i + 3 < D.length by omega), byteRows_getD D (i + 4) _ (show i + 4 < D.length by omega), fb7]
                    rw [decV_4 lD (ent_none hlt h4 he)]; simp [zeroV, LeA, LeL, LeD]
                  · skip
                    exact absurd hc4 (by simp)
                · skip
                  have hz := (piece_some hp3).2
                  have he := entB_at h5 hp hp2 hp3
                  refine AWp.rs fun K31 hK31 => ?_
                  try simp only [go_sem, icast, byteRows_len, zeroV, negneg, natneg, tn2, tn3, tn4, tn5, fb2, byteRows_getD D 0 _ (show 0 < D.length by omega), byteRows_getD D 1 _ (show 1 < D.length by omega), fb4, ft0, byteRows_getD D i _ (show i < D.length by omega), byteRows_getD D (i + 1) _ (show i + 1 < D.length by omega), byteRows_getD D (i + 2) _ (show i + 2 < D.length by omega), byteRows_getD D (i + 3) _ (show i + 3 < D.length by omega), byteRows_getD D (i + 4) _ (show i + 4 < D.length by omega), fb7]
                  refine DW.pcr rfl rfl rfl rfl (pieceAt_some T D (i + 5 + 2 + x.length + 2 + y.length) lD (by omega) z r3 hp3) rfl rfl ?_
                  try simp only [go_sem, icast, byteRows_len, zeroV, negneg, natneg, tn2, tn3, tn4, tn5, fb2, byteRows_getD D 0 _ (show 0 < D.length by omega), byteRows_getD D 1 _ (show 1 < D.length by omega), fb4, ft0, byteRows_getD D i _ (show i < D.length by omega), byteRows_getD D (i + 1) _ (show i + 1 < D.length by omega), byteRows_getD D (i + 2) _ (show i + 2 < D.length by omega), byteRows_getD D (i + 3) _ (show i + 3 < D.length by omega), byteRows_getD D (i + 4) _ (show i + 4 < D.length by omega), fb7]
                  refine hK31 _ _ ?_
                  try clear hK31 K31
                  refine AWp.mask [true, true, true, true, true, true] rfl ?_
                  simp only [go_sem]
                  refine AWp.seq fun K35 hK35 => ?_
                  refine AWp.rs fun K36 hK36 => ?_
                  try simp only [go_sem, icast, byteRows_len, zeroV, negneg, natneg, tn2, tn3, tn4, tn5, fb2, byteRows_getD D 0 _ (show 0 < D.length by omega), byteRows_getD D 1 _ (show 1 < D.length by omega), fb4, ft0, byteRows_getD D i _ (show i < D.length by omega), byteRows_getD D (i + 1) _ (show i + 1 < D.length by omega), byteRows_getD D (i + 2) _ (show i + 2 < D.length by omega), byteRows_getD D (i + 3) _ (show i + 3 < D.length by omega), byteRows_getD D (i + 4) _ (show i + 4 < D.length by omega), fb7]
                  refine hK36 _ _ ?_
                  try clear hK36 K36
                  refine AWp.cond _ rfl (fun hc4 => ?_) (fun hc4 => ?_)
                  · skip
                    exact absurd hc4 (by simp)
                  · skip
                    try simp only [decide_eq_true_eq, decide_eq_false_iff_not, Bool.not_eq_true', Bool.not_eq_false', Bool.and_eq_true, Bool.or_eq_true, Bool.and_eq_false_iff, Bool.or_eq_false_iff, Int.not_lt, Int.not_le, beq_iff_eq, beq_eq_false_iff_ne, ne_eq, Bool.not_eq_true, Bool.not_eq_false] at hc4
                    refine AWp.skip ?_
                    refine thenQ_n ?_
                    refine hK35 _ _ ?_
                    try clear hK35 K35
                    refine AWp.rk fun K37 hK37 => ?_
                    try simp only [go_sem, icast, byteRows_len, zeroV, negneg, natneg, tn2, tn3, tn4, tn5, fb2, byteRows_getD D 0 _ (show 0 < D.length by omega), byteRows_getD D 1 _ (show 1 < D.length by omega), fb4, ft0, byteRows_getD D i _ (show i < D.length by omega), byteRows_getD D (i + 1) _ (show i + 1 < D.length by omega), byteRows_getD D (i + 2) _ (show i + 2 < D.length by omega), byteRows_getD D (i + 3) _ (show i + 3 < D.length by omega), byteRows_getD D (i + 4) _ (show i + 4 < D.length by omega), fb7]
                    refine DW.app rfl rfl rfl rfl (show slI Tryd.prog 23 = some (56, 6, 72) by simp only [go_sem]) rfl rfl (by simp only [go_sem, icast, byteRows_len, zeroV, negneg, natneg, tn2, tn3, tn4, tn5, fb2, byteRows_getD D 0 _ (show 0 < D.length by omega), byteRows_getD D 1 _ (show 1 < D.length by omega), fb4, ft0, byteRows_getD D i _ (show i < D.length by omega), byteRows_getD D (i + 1) _ (show i + 1 < D.length by omega), byteRows_getD D (i + 2) _ (show i + 2 < D.length by omega), byteRows_getD D (i + 3) _ (show i + 3 < D.length by omega), byteRows_getD D (i + 4) _ (show i + 4 < D.length by omega), fb7]) (by first | exact .inl rfl | exact .inr rfl) (by (try simp only [go_sem, List.length_append, List.length_cons, List.length_nil, wideR_len, txS_len]); omega) (by (try simp only [go_sem, List.length_append, List.length_cons, List.length_nil, wideR_len, txS_len]); omega) fun t1 ft1 => ?_
                    try simp only [freshT] at ft1
                    try simp only [go_sem, icast, byteRows_len, zeroV, negneg, natneg, tn2, tn3, tn4, tn5, fb2, byteRows_getD D 0 _ (show 0 < D.length by omega), byteRows_getD D 1 _ (show 1 < D.length by omega), fb4, ft0, byteRows_getD D i _ (show i < D.length by omega), byteRows_getD D (i + 1) _ (show i + 1 < D.length by omega), byteRows_getD D (i + 2) _ (show i + 2 < D.length by omega), byteRows_getD D (i + 3) _ (show i + 3 < D.length by omega), byteRows_getD D (i + 4) _ (show i + 4 < D.length by omega), fb7, ft1]
                    refine hK37 _ _ ?_
                    try clear hK37 K37
                    refine blkQ_n (thenQ_n ?_)
                    refine hK14 _ _ ?_
                    try clear hK14 K14
                    refine AWp.mask [true, true, true, true, true] rfl ?_
                    simp only [go_sem]
                    refine AWp.rk fun K38 hK38 => ?_
                    try simp only [go_sem, icast, byteRows_len, zeroV, negneg, natneg, tn2, tn3, tn4, tn5, fb2, byteRows_getD D 0 _ (show 0 < D.length by omega), byteRows_getD D 1 _ (show 1 < D.length by omega), fb4, ft0, byteRows_getD D i _ (show i < D.length by omega), byteRows_getD D (i + 1) _ (show i + 1 < D.length by omega), byteRows_getD D (i + 2) _ (show i + 2 < D.length by omega), byteRows_getD D (i + 3) _ (show i + 3 < D.length by omega), byteRows_getD D (i + 4) _ (show i + 4 < D.length by omega), fb7, ft1]
                    (repeat (with_reducible refine And.intro ?_ ?_; omega))
                    refine hK38 _ _ ?_
                    try clear hK38 K38
                    refine thenQ_n ?_
                    refine EndS.mk [true, true, true] [false, false, false, true, true] [b7] [] [b4, b2] [t1] rfl ?_ ?_
                    · (try simp only [go_sem, icast, byteRows_len, zeroV, negneg, natneg, tn2, tn3, tn4, tn5, fb2, byteRows_getD D 0 _ (show 0 < D.length by omega), byteRows_getD D 1 _ (show 1 < D.length by omega), fb4, ft0, byteRows_getD D i _ (show i < D.length by omega), byteRows_getD D (i + 1) _ (show i + 1 < D.length by omega), byteRows_getD D (i + 2) _ (show i + 2 < D.length by omega), byteRows_getD D (i + 3) _ (show i + 3 < D.length by omega), byteRows_getD D (i + 4) _ (show i + 4 < D.length by omega), fb7, ft1]) <;> try rfl
                    refine .e ⟨_, ?_, (i + 5 + 2 + x.length + 2 + y.length + 2 + z.length), (acc ++ [⟨((D.getD i 0).toNat : Int), x, 65536 * ((D.getD (i + 2) 0).toNat : Int) + 256 * ((D.getD (i + 3) 0).toNat : Int) + ((D.getD (i + 4) 0).toNat : Int), ((D.getD (i + 1) 0).toNat : Int), y, z⟩]), t1, rfl, ?_, ?_, ?_, ?_, ?_, ?_⟩
                    · first | omega | (simp; omega) | (grind)
                    · (try simp only [go_sem, icast, byteRows_len, zeroV, negneg, natneg, tn2, tn3, tn4, tn5, fb2, byteRows_getD D 0 _ (show 0 < D.length by omega), byteRows_getD D 1 _ (show 1 < D.length by omega), fb4, ft0, byteRows_getD D i _ (show i < D.length by omega), byteRows_getD D (i + 1) _ (show i + 1 < D.length by omega), byteRows_getD D (i + 2) _ (show i + 2 < D.length by omega), byteRows_getD D (i + 3) _ (show i + 3 < D.length by omega), byteRows_getD D (i + 4) _ (show i + 4 < D.length by omega), fb7, ft1]) <;> first | exact ⟨rfl⟩ | (constructor; simp; done)
                    · (try simp only [go_sem, icast, byteRows_len, zeroV, negneg, natneg, tn2, tn3, tn4, tn5, fb2, byteRows_getD D 0 _ (show 0 < D.length by omega), byteRows_getD D 1 _ (show 1 < D.length by omega), fb4, ft0, byteRows_getD D i _ (show i < D.length by omega), byteRows_getD D (i + 1) _ (show i + 1 < D.length by omega), byteRows_getD D (i + 2) _ (show i + 2 < D.length by omega), byteRows_getD D (i + 3) _ (show i + 3 < D.length by omega), byteRows_getD D (i + 4) _ (show i + 4 < D.length by omega), fb7, ft1]) <;> first | exact ⟨rfl⟩ | (constructor; simp [entsD, entD]; done)
                    all_goals first | omega | exact ent_next hlt h4 he | (simp only [List.length_append, List.length_singleton]; omega) | (intro x hx; rcases List.mem_append.1 hx with hx | hx <;> first | exact h3 x hx | (rw [List.mem_singleton.1 hx]; exact ⟨by dsimp only; omega, by dsimp only; omega, by dsimp only; omega⟩))
        · skip
          try simp only [decide_eq_true_eq, decide_eq_false_iff_not, Bool.not_eq_true', Bool.not_eq_false', Bool.and_eq_true, Bool.or_eq_true, Bool.and_eq_false_iff, Bool.or_eq_false_iff, Int.not_lt, Int.not_le, beq_iff_eq, beq_eq_false_iff_ne, ne_eq, Bool.not_eq_true, Bool.not_eq_false] at hc2
          have hn := h4.trans (ents_done (by omega) (D.getD 0 0).toNat)
          refine AWp.exit ?_
          refine thenQ_e (thenQ_e (blkQ_e (thenQ_n ?_)))
          refine hK10 _ _ ?_
          try clear hK10 K10
          refine AWp.seq fun K39 hK39 => ?_
          refine AWp.rs fun K40 hK40 => ?_
          try simp only [go_sem, icast, byteRows_len, zeroV, negneg, natneg, tn2, tn3, tn4, tn5, fb2, byteRows_getD D 0 _ (show 0 < D.length by omega), byteRows_getD D 1 _ (show 1 < D.length by omega), fb4, ft0]
          refine hK40 _ _ ?_
          try clear hK40 K40
          refine AWp.mask [false, true, true, false, false, false, false, false, false, true] rfl ?_
          simp only [go_sem]
          refine AWp.cond _ rfl (fun hc5 => ?_) (fun hc5 => ?_)
          · skip
            try simp only [decide_eq_true_eq, decide_eq_false_iff_not, Bool.not_eq_true', Bool.not_eq_false', Bool.and_eq_true, Bool.or_eq_true, Bool.and_eq_false_iff, Bool.or_eq_false_iff, Int.not_lt, Int.not_le, beq_iff_eq, beq_eq_false_iff_ne, ne_eq, Bool.not_eq_true, Bool.not_eq_false] at hc5
            refine AWp.rs fun K41 hK41 => ?_
            try simp only [go_sem, icast, byteRows_len, zeroV, negneg, natneg, tn2, tn3, tn4, tn5, fb2, byteRows_getD D 0 _ (show 0 < D.length by omega), byteRows_getD D 1 _ (show 1 < D.length by omega), fb4, ft0]
            refine hK41 _ _ ?_
            try clear hK41 K41
            refine AWp.ret ?_
            try simp only [go_sem, icast, byteRows_len, zeroV, negneg, natneg, tn2, tn3, tn4, tn5, fb2, byteRows_getD D 0 _ (show 0 < D.length by omega), byteRows_getD D 1 _ (show 1 < D.length by omega), fb4, ft0]
            rw [decV_3 lD hn (by rw [List.length_drop]; omega)]; simp [zeroV, LeA, LeL, LeD]
          · skip
            try simp only [decide_eq_true_eq, decide_eq_false_iff_not, Bool.not_eq_true', Bool.not_eq_false', Bool.and_eq_true, Bool.or_eq_true, Bool.and_eq_false_iff, Bool.or_eq_false_iff, Int.not_lt, Int.not_le, beq_iff_eq, beq_eq_false_iff_ne, ne_eq, Bool.not_eq_true, Bool.not_eq_false] at hc5
            have hz0 : (D.drop i).length = 0 := by rw [List.length_drop]; omega
            refine AWp.skip ?_
            refine thenQ_n ?_
            refine hK39 _ _ ?_
            try clear hK39 K39
            refine AWp.wkH [(b4, ⟨2, 1, [[.d (.int .i64 ((D.getD 0 0).toNat)), .d (.slc 6 (entsD acc))]]⟩), (b2, ⟨2, 1, [[.d (.int .i64 0), .nils]]⟩)] (by simp [LeObs, LeRows, LeA, LeL, LeD, AV.one]) ?_
            · skip
              refine AWp.rs fun K42 hK42 => ?_
              try simp only [go_sem, icast, byteRows_len, zeroV, negneg, natneg, tn2, tn3, tn4, tn5, fb2, byteRows_getD D 0 _ (show 0 < D.length by omega), byteRows_getD D 1 _ (show 1 < D.length by omega), fb4, ft0]
              refine DW.pcr rfl rfl rfl rfl (BatchFault_c T hL (D.getD 0 0).toNat acc h3) rfl rfl ?_
              try simp only [go_sem, icast, byteRows_len, zeroV, negneg, natneg, tn2, tn3, tn4, tn5, fb2, byteRows_getD D 0 _ (show 0 < D.length by omega), byteRows_getD D 1 _ (show 1 < D.length by omega), fb4, ft0]
              refine hK42 _ _ ?_
              try clear hK42 K42
              refine AWp.seq fun K43 hK43 => ?_
              refine AWp.rs fun K44 hK44 => ?_
              try simp only [go_sem, icast, byteRows_len, zeroV, negneg, natneg, tn2, tn3, tn4, tn5, fb2, byteRows_getD D 0 _ (show 0 < D.length by omega), byteRows_getD D 1 _ (show 1 < D.length by omega), fb4, ft0]
              refine hK44 _ _ ?_
              try clear hK44 K44
              refine AWp.mask [true, true, true, false, false, false, false, true] rfl ?_
              simp only [go_sem]
              refine AWp.cond _ rfl (fun hc6 => ?_) (fun hc6 => ?_)
              · skip
                try simp only [decide_eq_true_eq, decide_eq_false_iff_not, Bool.not_eq_true', Bool.not_eq_false', Bool.and_eq_true, Bool.or_eq_true, Bool.and_eq_false_iff, Bool.or_eq_false_iff, Int.not_lt, Int.not_le, beq_iff_eq, beq_eq_false_iff_ne, ne_eq, Bool.not_eq_true, Bool.not_eq_false] at hc6
                refine AWp.rs fun K45 hK45 => ?_
                try simp only [go_sem, icast, byteRows_len, zeroV, negneg, natneg, tn2, tn3, tn4, tn5, fb2, byteRows_getD D 0 _ (show 0 < D.length by omega), byteRows_getD D 1 _ (show 1 < D.length by omega), fb4, ft0]
                refine hK45 _ _ ?_
                try clear hK45 K45
                refine AWp.mask [true, true] rfl ?_
                simp only [go_sem]
                refine AWp.ret ?_
                try simp only [go_sem, icast, byteRows_len, zeroV, negneg, natneg, tn2, tn3, tn4, tn5, fb2, byteRows_getD D 0 _ (show 0 < D.length by omega), byteRows_getD D 1 _ (show 1 < D.length by omega), fb4, ft0]
                rw [decV_e lD hn hz0 hc6]; simp [zeroV, LeA, LeL, LeD]
              · skip
                try simp only [decide_eq_true_eq, decide_eq_false_iff_not, Bool.not_eq_true', Bool.not_eq_false', Bool.and_eq_true, Bool.or_eq_true, Bool.and_eq_false_iff, Bool.or_eq_false_iff, Int.not_lt, Int.not_le, beq_iff_eq, beq_eq_false_iff_ne, ne_eq, Bool.not_eq_true, Bool.not_eq_false] at hc6
                refine AWp.skip ?_
                refine thenQ_n ?_
                refine hK43 _ _ ?_
                try clear hK43 K43
                refine AWp.rs fun K46 hK46 => ?_
                try simp only [go_sem, icast, byteRows_len, zeroV, negneg, natneg, tn2, tn3, tn4, tn5, fb2, byteRows_getD D 0 _ (show 0 < D.length by omega), byteRows_getD D 1 _ (show 1 < D.length by omega), fb4, ft0]
                refine hK46 _ _ ?_
                try clear hK46 K46
                refine AWp.mask [true, true] rfl ?_
                simp only [go_sem]
                refine AWp.ret ?_
                try simp only [go_sem, icast, byteRows_len, zeroV, negneg, natneg, tn2, tn3, tn4, tn5, fb2, byteRows_getD D 0 _ (show 0 < D.length by omega), byteRows_getD D 1 _ (show 1 < D.length by omega), fb4, ft0]
                rw [decV_0 lD hn hz0 hc6]; simp [LeA, LeL, LeD]
end Go.Proofs.YthhfbolhlbgbgaaDoor

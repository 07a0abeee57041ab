/- Texts that the laws rest on, packed. -/
import Derived.Test.YthhfbolhlbgbgaaDoorGK
import Derived.Test.YthhfbolhlbgbgaaDoorGB
namespace Go.Proofs.YthhfbolhlbgbgaaDoor
set_option linter.unusedSimpArgs false
set_option linter.unusedVariables false
structure Mail where
  uid : Int
  flags : Int
  text : Tx
structure BoxS where
  name : Tx
  next : Int
  mails : List Mail
structure St where
  boxes : List BoxS
  spool : List Ent
def mailD (m : Mail) : List D := [.int .i64 m.uid, .int .i64 m.flags, .str m.text]
def mailsD (l : List Mail) : List (List D) := l.map mailD
def boxD (b : BoxS) : List D := [.str b.name, .int .i64 b.next, .slc 3 (mailsD b.mails)]
def boxA (b : BoxS) : List AV := [.d (.str b.name), .d (.int .i64 b.next), .d (.slc 3 (mailsD b.mails))]
def boxesD (l : List BoxS) : List (List D) := l.map boxD
def stateA (s : St) : List AV := [.d (.slc 3 (boxesD s.boxes)), .d (.slc 6 (entsD s.spool))]
attribute [go_sem] boxA stateA
@[go_sem] theorem mailsD_len (l : List Mail) : (mailsD l).length = l.length := by simp [mailsD]
theorem mailsD_get (l : List Mail) (i : Nat) (d : List D) (h : i < l.length) : (mailsD l).getD i d = mailD (l[i]'h) := map_getD mailD _ _ _ h
@[go_sem] theorem boxesD_len (l : List BoxS) : (boxesD l).length = l.length := by simp [boxesD]
theorem boxesD_get (l : List BoxS) (i : Nat) (d : List D) (h : i < l.length) : (boxesD l).getD i d = boxD (l[i]'h) := map_getD boxD _ _ _ h
theorem boxesD_take (l : List BoxS) (i : Nat) : (boxesD l).take i = boxesD (l.take i) := by simp [boxesD]
def bytesM : List Mail → Nat
  | [] => 0
  | m :: r => m.text.length + bytesM r
def bytesB : List BoxS → Nat
  | [] => 0
  | b :: r => bytesM b.mails + bytesB r
theorem bytesM_t {l : List Mail} {k : Nat} (h : k < l.length) : bytesM (l.drop k) = (l[k]'h).text.length + bytesM (l.drop (k + 1)) := by rw [List.drop_eq_getElem_cons h]; rfl
theorem bytesM_end {l : List Mail} {k : Nat} (h : l.length ≤ k) : bytesM (l.drop k) = 0 := by rw [List.drop_eq_nil_of_le h]; rfl
theorem bytesB_t {l : List BoxS} {k : Nat} (h : k < l.length) : bytesB (l.drop k) = bytesM (l[k]'h).mails + bytesB (l.drop (k + 1)) := by rw [List.drop_eq_getElem_cons h]; rfl
theorem bytesB_end {l : List BoxS} {k : Nat} (h : l.length ≤ k) : bytesB (l.drop k) = 0 := by rw [List.drop_eq_nil_of_le h]; rfl
/-- the place of the first box with a name; -1: there is none -/
def findI : List BoxS → Tx → Int
  | [], _ => -1
  | b :: r, t => if b.name = t then 0 else if findI r t < 0 then -1 else findI r t + 1
theorem findI_ge : ∀ (l : List BoxS) (t : Tx), -1 ≤ findI l t
  | [], _ => by simp [findI]
  | b :: r, t => by have := findI_ge r t; unfold findI; split; omega; split <;> omega
/-- seen up to a place -/
def findR (l : List BoxS) (t : Tx) (k : Nat) : Prop := findI l t = if findI (l.drop k) t < 0 then -1 else findI (l.drop k) t + k
theorem findR_0 (l : List BoxS) (t : Tx) : findR l t 0 := by
  have := findI_ge l t
  unfold findR; rw [List.drop_zero]; split <;> omega
theorem findR_t {l : List BoxS} {t : Tx} {k : Nat} (h : k < l.length) (hR : findR l t k) (he : (l[k]'h).name = t) : findI l t = k := by
  unfold findR at hR
  rw [List.drop_eq_getElem_cons h, findI, if_pos he] at hR
  rw [hR]; simp
theorem findR_f {l : List BoxS} {t : Tx} {k : Nat} (h : k < l.length) (hR : findR l t k) (he : ¬ (l[k]'h).name = t) : findR l t (k + 1) := by
  unfold findR at hR ⊢
  rw [List.drop_eq_getElem_cons h, findI, if_neg he] at hR
  have := findI_ge (l.drop (k + 1)) t
  rw [hR]
  split <;> split <;> omega
theorem findR_end {l : List BoxS} {t : Tx} {k : Nat} (h : l.length ≤ k) (hR : findR l t k) : findI l t = -1 := by
  unfold findR at hR
  rw [List.drop_eq_nil_of_le h] at hR
  simpa [findI] using hR
/-- mails that may be, behind a uid -/
def mlF (nx : Int) : Int → List Mail → Bool
  | _, [] => true
  | last, m :: r => (decide (last < m.uid) && decide (m.uid < nx) && decide (0 ≤ m.flags) && decide (m.flags ≤ 31) && decide (m.text.length ≤ 2000)) && mlF nx m.uid r
theorem ml_f {nx la : Int} {l : List Mail} {k : Nat} (h : k < l.length) (hc : ¬ (la < (l[k]'h).uid ∧ (l[k]'h).uid < nx ∧ 0 ≤ (l[k]'h).flags ∧ (l[k]'h).flags ≤ 31 ∧ (l[k]'h).text.length ≤ 2000)) : mlF nx la (l.drop k) = false := by
  rw [List.drop_eq_getElem_cons h, mlF, Bool.and_eq_false_iff]
  refine .inl ?_
  simp only [Bool.and_eq_false_iff, decide_eq_false_iff_not]
  omega
theorem ml_t {nx la : Int} {l : List Mail} {k : Nat} (h : k < l.length) (hc : la < (l[k]'h).uid ∧ (l[k]'h).uid < nx ∧ 0 ≤ (l[k]'h).flags ∧ (l[k]'h).flags ≤ 31 ∧ (l[k]'h).text.length ≤ 2000) : mlF nx la (l.drop k) = mlF nx (l[k]'h).uid (l.drop (k + 1)) := by
  rw [List.drop_eq_getElem_cons h, mlF]
  simp [hc]
theorem ml_end {nx la : Int} {l : List Mail} {k : Nat} (h : l.length ≤ k) : mlF nx la (l.drop k) = true := by rw [List.drop_eq_nil_of_le h]; rfl
def boxOk (b : BoxS) : Bool := if nameE b.name ≠ 0 ∨ b.next < 1 ∨ 1048577 < b.next ∨ 30 < b.mails.length then false else mlF b.next 0 b.mails
theorem boxOk_0 {b : BoxS} (h : nameE b.name ≠ 0 ∨ b.next < 1 ∨ 1048577 < b.next ∨ 30 < b.mails.length) : boxOk b = false := if_pos h
theorem boxOk_t {b : BoxS} (h : ¬ (nameE b.name ≠ 0 ∨ b.next < 1 ∨ 1048577 < b.next ∨ 30 < b.mails.length)) : boxOk b = mlF b.next 0 b.mails := if_neg h
/-- boxes that may be, behind others -/
def bxF : List BoxS → List BoxS → Bool
  | _, [] => true
  | pre, b :: r => (boxOk b && decide (findI pre b.name < 0)) && bxF (pre ++ [b]) r
theorem take_succ' {α : Type} {l : List α} {k : Nat} (h : k < l.length) : l.take (k + 1) = l.take k ++ [l[k]'h] := by rw [List.take_add_one]; simp [List.getElem?_eq_getElem h]
theorem bx_f {l : List BoxS} {k : Nat} (h : k < l.length) (hc : boxOk (l[k]'h) = false ∨ 0 ≤ findI (l.take k) (l[k]'h).name) : bxF (l.take k) (l.drop k) = false := by
  rw [List.drop_eq_getElem_cons h, bxF, Bool.and_eq_false_iff]
  refine .inl ?_
  rw [Bool.and_eq_false_iff, decide_eq_false_iff_not]
  rcases hc with hc | hc
  · exact .inl hc
  · exact .inr (by omega)
theorem bx_t {l : List BoxS} {k : Nat} (h : k < l.length) (hc : boxOk (l[k]'h) = true) (hd : findI (l.take k) (l[k]'h).name < 0) : bxF (l.take k) (l.drop k) = bxF (l.take (k + 1)) (l.drop (k + 1)) := by
  rw [List.drop_eq_getElem_cons h, bxF, hc, take_succ' h]
  simp [hd]
theorem bx_end {l : List BoxS} {k : Nat} (h : l.length ≤ k) : bxF (l.take k) (l.drop k) = true := by rw [List.drop_eq_nil_of_le h]; rfl
/-- entries that may wait -/
def spF : List Ent → Bool
  | [] => true
  | x :: r => (decide (x.kind = 6) && decide (entE x = 0)) && spF r
theorem sp_f {l : List Ent} {k : Nat} (h : k < l.length) (hc : ¬ ((l[k]'h).kind = 6 ∧ entE (l[k]'h) = 0)) : spF (l.drop k) = false := by
  rw [List.drop_eq_getElem_cons h, spF, Bool.and_eq_false_iff]
  refine .inl ?_
  simp only [Bool.and_eq_false_iff, decide_eq_false_iff_not]
  omega
theorem sp_t {l : List Ent} {k : Nat} (h : k < l.length) (hc : (l[k]'h).kind = 6 ∧ entE (l[k]'h) = 0) : spF (l.drop k) = spF (l.drop (k + 1)) := by
  rw [List.drop_eq_getElem_cons h, spF]; simp [hc]
theorem sp_end {l : List Ent} {k : Nat} (h : l.length ≤ k) : spF (l.drop k) = true := by rw [List.drop_eq_nil_of_le h]; rfl
/-- what is wrong with a state -/
def stE (s : St) : Int := if 5 < s.boxes.length ∨ 20 < s.spool.length then 11 else if bxF [] s.boxes = false then 11 else if spF s.spool = false then 11 else if 6000 < bytesB s.boxes then 11 else 0
theorem stE_0 {s : St} (h : 5 < s.boxes.length ∨ 20 < s.spool.length) : stE s = 11 := if_pos h
theorem stE_1 {s : St} (h : bxF [] s.boxes = false) : stE s = 11 := by unfold stE; simp [h]
theorem stE_2 {s : St} (h : spF s.spool = false) : stE s = 11 := by unfold stE; simp [h]
theorem stE_3 {s : St} (h : 6000 < bytesB s.boxes) : stE s = 11 := by unfold stE; simp [h]
theorem stE_t {s : St} (h0 : ¬ (5 < s.boxes.length ∨ 20 < s.spool.length)) (h1 : bxF [] s.boxes = true) (h2 : spF s.spool = true) (h3 : bytesB s.boxes ≤ 6000) : stE s = 0 := by
  unfold stE; rw [if_neg h0, if_neg (by simp [h1]), if_neg (by simp [h2]), if_neg (by omega)]
theorem ml_small {nx : Int} : ∀ (l : List Mail) (la : Int), mlF nx la l = true → bytesM l ≤ 2000 * l.length
  | [], _, _ => by simp [bytesM]
  | m :: r, la, h => by
    rw [mlF, Bool.and_eq_true] at h
    have h2 := ml_small r _ h.2
    have h1 : m.text.length ≤ 2000 := by
      have := h.1
      simp only [Bool.and_eq_true, decide_eq_true_eq] at this
      exact this.2
    simp only [bytesM, List.length_cons]
    omega
theorem boxOk_small {b : BoxS} (h : boxOk b = true) : bytesM b.mails ≤ 60000 := by
  unfold boxOk at h
  split at h
  · cases h
  · have := ml_small _ _ h
    omega
theorem bx_small : ∀ (l pre : List BoxS), bxF pre l = true → bytesB l ≤ 60000 * l.length
  | [], _, _ => by simp [bytesB]
  | b :: r, pre, h => by
    rw [bxF, Bool.and_eq_true, Bool.and_eq_true] at h
    have h1 := boxOk_small h.1.1
    have h2 := bx_small r _ h.2
    simp only [bytesB, List.length_cons]
    omega
theorem stE_small {s : St} (h0 : ¬ (5 < s.boxes.length ∨ 20 < s.spool.length)) (h1 : bxF [] s.boxes = true) : bytesB s.boxes ≤ 300000 := by
  have := bx_small _ _ h1
  omega
structure StB (s : St) : Prop where
  bx : s.boxes.length ≤ 1000
  ml : ∀ b ∈ s.boxes, b.mails.length ≤ 1000
  by_ : bytesB s.boxes ≤ 1000000
theorem boxOk_len {b : BoxS} (h : boxOk b = true) : b.mails.length ≤ 30 := by
  unfold boxOk at h
  split at h
  · cases h
  · omega
theorem bx_len : ∀ (l pre : List BoxS), bxF pre l = true → ∀ b ∈ l, b.mails.length ≤ 30
  | [], _, _, b, h => by cases h
  | x :: r, pre, h, b, hb => by
    rw [bxF, Bool.and_eq_true, Bool.and_eq_true] at h
    rcases List.mem_cons.1 hb with rfl | hb
    · exact boxOk_len h.1.1
    · exact bx_len r _ h.2 b hb
theorem stE_B {s : St} (h0 : ¬ (5 < s.boxes.length ∨ 20 < s.spool.length)) (h1 : bxF [] s.boxes = true) : StB s := ⟨by omega, fun b hb => Nat.le_trans (bx_len _ _ h1 b hb) (by decide), Nat.le_trans (stE_small h0 h1) (by decide)⟩
structure StOk (s : St) : Prop where
  nm : ∀ b ∈ s.boxes, b.name.length ≤ 9223372036854775807
  sp : ∀ x ∈ s.spool, EntOk x
set_option maxRecDepth 4000 in
set_option maxHeartbeats 1000000 in
theorem box_c (T : Tbl) (b : BoxS) (hn : b.name.length ≤ 9223372036854775807) : PC Tryd.prog T 91 [.agg (boxA b)] (.d (.bool (boxOk b))) := by
  refine ⟨Tryd.call91, PCall.enterS Tryd.func91 rfl Tryd.ntmps91 rfl fun hb => ?_⟩
  simp only [go_sem, Tryd.results91]
  refine AWp.rs fun K1 hK1 => ?_
  try simp only [go_sem]
  intro b1
  first | intro fb1 | have fb1 := True.intro
  try simp only [freshL] at fb1
  refine hK1 _ _ ?_
  try clear hK1 K1
  refine AWp.seq fun K2 hK2 => ?_
  refine AWp.rs fun K3 hK3 => ?_
  try simp only [go_sem]
  refine DW.pcr rfl rfl rfl rfl (Name_c T _ hn) rfl rfl ?_
  try simp only [go_sem]
  (repeat (with_reducible refine And.intro ?_ ?_; (exact nfB)))
  refine hK3 _ _ ?_
  try clear hK3 K3
  refine AWp.mask [false, true, false, false, false, false, false, false, false, false, false, false, false, false, false, false, false, false, false, false, false, false, true] rfl ?_
  simp only [go_sem]
  refine AWp.cond _ rfl (fun hc0 => ?_) (fun hc0 => ?_)
  · skip
    try simp only [decide_eq_true_eq, decide_eq_false_iff_not, Bool.not_eq_true', Bool.or_eq_true] at hc0
    refine AWp.rs fun K4 hK4 => ?_
    try simp only [go_sem]
    refine hK4 _ _ ?_
    try clear hK4 K4
    refine AWp.ret ?_
    try simp only [go_sem]
    rw [boxOk_0 (by omega)]
  · skip
    try simp only [decide_eq_true_eq, decide_eq_false_iff_not, Bool.not_eq_false', Bool.or_eq_false_iff, Int.not_lt] at hc0
    have h0 : ¬ (nameE b.name ≠ 0 ∨ b.next < 1 ∨ 1048577 < b.next ∨ 30 < b.mails.length) := by omega
    refine AWp.skip ?_
    refine thenQ_n ?_
    refine hK2 _ _ ?_
    try clear hK2 K2
    refine AWp.rs fun K5 hK5 => ?_
    try simp only [go_sem]
    refine hK5 _ _ ?_
    try clear hK5 K5
    refine AWp.seq fun K6 hK6 => ?_
    refine AWp.rs fun K7 hK7 => ?_
    try simp only [go_sem]
    refine hK7 _ _ ?_
    try clear hK7 K7
    refine AWp.block ?_
    refine AWp.mask [true, true, false, false, true, true, true] rfl ?_
    simp only [go_sem]
    refine AWp.loopS [true, false, true, true] [false, true, false, false, true] (fun n lc hc => ∃ (k : Nat) (la : Int), n = b.mails.length - k ∧ EqS lc [(3, .d (.int .i64 la)), (29, .d (.int .i64 k))] ∧ EqS hc (⟨[(b1, ⟨3, 1, [boxA b]⟩)], []⟩) ∧ (k ≤ b.mails.length) ∧ (mlF b.next la (b.mails.drop k) = mlF b.next 0 b.mails)) rfl ?_ ?_
    · refine ⟨_, 0, 0, rfl, ?_, ?_, ?_, ?_⟩
      · (try simp only [go_sem]) <;> first | exact ⟨rfl⟩ | (constructor; simp; done)
      · (try simp only [go_sem]) <;> first | exact ⟨rfl⟩ | (constructor; simp; done)
      all_goals (first | omega | rfl)
    · rintro _ _ _ ⟨k, la, rfl, ⟨rfl⟩, ⟨rfl⟩, h1, h2⟩
      simp only [go_sem]
      refine AWp.rs fun K8 hK8 => ?_
      try simp only [go_sem]
      refine hK8 _ _ ?_
      try clear hK8 K8
      refine AWp.seq fun K9 hK9 => ?_
      refine AWp.cond _ rfl (fun hc1 => ?_) (fun hc1 => ?_)
      · skip
        try simp only [decide_eq_true_eq] at hc1
        have hlt : k < b.mails.length := by omega
        refine AWp.skip ?_
        refine thenQ_n ?_
        refine hK9 _ _ ?_
        try clear hK9 K9
        refine AWp.seq fun K10 hK10 => ?_
        refine AWp.block ?_
        refine AWp.rs fun K11 hK11 => ?_
        try simp only [go_sem, mailD, mailsD_get b.mails k _ hlt]
        (repeat (with_reducible refine And.intro ?_ ?_; omega))
        intro b5
        first | intro fb5 | have fb5 := True.intro
        try simp only [freshL] at fb5
        refine hK11 _ _ ?_
        try clear hK11 K11
        refine AWp.seq fun K12 hK12 => ?_
        refine AWp.rs fun K13 hK13 => ?_
        try simp only [go_sem, fb5]
        (repeat (with_reducible refine And.intro ?_ ?_; (exact nfB)))
        refine hK13 _ _ ?_
        try clear hK13 K13
        refine AWp.mask [true, false, true, true, true, true, false, false, false, false, false, false, false, false, false, false, false, false, false, false, false, false, false, false, false, false, false, false, false, false, false, false, false, false, false, true] rfl ?_
        simp only [go_sem]
        refine AWp.cond _ rfl (fun hc2 => ?_) (fun hc2 => ?_)
        · skip
          try simp only [decide_eq_true_eq, Bool.or_eq_true] at hc2
          refine AWp.rs fun K14 hK14 => ?_
          try simp only [go_sem]
          refine hK14 _ _ ?_
          try clear hK14 K14
          refine AWp.mask [false, true] rfl ?_
          simp only [go_sem]
          refine AWp.ret ?_
          try simp only [go_sem]
          rw [boxOk_t h0, ← h2, ml_f hlt (by omega)]
        · skip
          try simp only [decide_eq_false_iff_not, Bool.or_eq_false_iff, Int.not_lt, Int.not_le] at hc2
          refine AWp.skip ?_
          refine thenQ_n ?_
          refine hK12 _ _ ?_
          try clear hK12 K12
          refine AWp.rk fun K15 hK15 => ?_
          try simp only [go_sem, fb5]
          refine hK15 _ _ ?_
          try clear hK15 K15
          refine blkQ_n (thenQ_n ?_)
          refine hK10 _ _ ?_
          try clear hK10 K10
          refine AWp.mask [true, true, false, true, true, true] rfl ?_
          simp only [go_sem]
          refine AWp.rk fun K16 hK16 => ?_
          try simp only [go_sem, icast]
          (repeat (with_reducible refine And.intro ?_ ?_; omega))
          refine hK16 _ _ ?_
          try clear hK16 K16
          refine thenQ_n ?_
          refine EndS.mk [true, false, true, true] [false, true, false, false, true] [b5] [] [b1] [] rfl ?_ ?_
          · (try simp only [go_sem]) <;> try rfl
          refine .e ⟨_, ?_, k + 1, (b.mails[k]'hlt).uid, rfl, ?_, ?_, ?_, ?_⟩
          · first | omega | (simp; omega) | (grind)
          · (try simp only [go_sem]) <;> first | exact ⟨rfl⟩ | (constructor; simp; done)
          · (try simp only [go_sem, fb5]) <;> first | exact ⟨rfl⟩ | (constructor; simp; done)
          · omega
          · rw [← ml_t (nx := b.next) (la := la) hlt (by omega)]; exact h2
      · skip
        try simp only [decide_eq_false_iff_not, Int.not_lt] at hc1
        refine AWp.exit ?_
        refine thenQ_e (thenQ_e (blkQ_e (thenQ_n ?_)))
        refine hK6 _ _ ?_
        try clear hK6 K6
        refine AWp.mask [] rfl ?_
        simp only [go_sem]
        refine AWp.rs fun K17 hK17 => ?_
        try simp only [go_sem]
        refine hK17 _ _ ?_
        try clear hK17 K17
        refine AWp.ret ?_
        try simp only [go_sem]
        rw [boxOk_t h0, ← h2, ml_end (by omega)]
set_option maxRecDepth 4000 in
set_option maxHeartbeats 1000000 in
theorem size_c (T : Tbl) (s : St) (sb : StB s) : PC Tryd.prog T 53 [.agg (stateA s)] (.d (.int .i64 (bytesB s.boxes : Nat))) := by
  refine ⟨Tryd.call53, PCall.enterS Tryd.func53 rfl Tryd.ntmps53 rfl fun hb => ?_⟩
  obtain ⟨sb1, sb2, sb3⟩ := sb
  simp only [go_sem, Tryd.results53]
  refine AWp.rs fun K1 hK1 => ?_
  try simp only [go_sem]
  intro b1
  first | intro fb1 | have fb1 := True.intro
  try simp only [freshL] at fb1
  refine hK1 _ _ ?_
  try clear hK1 K1
  refine AWp.rs fun K2 hK2 => ?_
  try simp only [go_sem]
  refine hK2 _ _ ?_
  try clear hK2 K2
  refine AWp.seq fun K3 hK3 => ?_
  refine AWp.rs fun K4 hK4 => ?_
  try simp only [go_sem]
  refine hK4 _ _ ?_
  try clear hK4 K4
  refine AWp.mask [false, false, false, true, false, true, true, true] rfl ?_
  simp only [go_sem]
  refine AWp.block ?_
  refine AWp.loopS [false, true, true] [true, false, false, true] (fun n lc hc => ∃ (k a : Nat), n = s.boxes.length - k ∧ EqS lc [(3, .d (.int .i64 (a : Nat))), (11, .d (.int .i64 k))] ∧ EqS hc (⟨[(b1, ⟨2, 1, [stateA s]⟩)], []⟩) ∧ (k ≤ s.boxes.length) ∧ (a + bytesB (s.boxes.drop k) = bytesB s.boxes)) rfl ?_ ?_
  · refine ⟨_, 0, 0, rfl, ?_, ?_, ?_, ?_⟩
    · (try simp only [go_sem]) <;> first | exact ⟨rfl⟩ | (constructor; simp; done)
    · (try simp only [go_sem]) <;> first | exact ⟨rfl⟩ | (constructor; simp; done)
    all_goals (first | omega | (simp; done))
  · rintro _ _ _ ⟨k, a, rfl, ⟨rfl⟩, ⟨rfl⟩, h1, h2⟩
    simp only [go_sem]
    refine AWp.rs fun K5 hK5 => ?_
    try simp only [go_sem]
    refine hK5 _ _ ?_
    try clear hK5 K5
    refine AWp.seq fun K6 hK6 => ?_
    refine AWp.cond _ rfl (fun hc0 => ?_) (fun hc0 => ?_)
    · skip
      try simp only [decide_eq_true_eq] at hc0
      have hlt : k < s.boxes.length := by omega
      have hb := bytesB_t hlt
      have hm3 := sb2 _ (List.getElem_mem hlt)
      refine AWp.skip ?_
      refine thenQ_n ?_
      refine hK6 _ _ ?_
      try clear hK6 K6
      refine AWp.seq fun K7 hK7 => ?_
      refine AWp.block ?_
      refine AWp.rs fun K8 hK8 => ?_
      try simp only [go_sem, boxD, boxesD_get s.boxes k _ hlt]
      (repeat (with_reducible refine And.intro ?_ ?_; omega))
      intro b5
      first | intro fb5 | have fb5 := True.intro
      try simp only [freshL] at fb5
      refine hK8 _ _ ?_
      try clear hK8 K8
      refine AWp.rs fun K9 hK9 => ?_
      try simp only [go_sem, fb5]
      refine hK9 _ _ ?_
      try clear hK9 K9
      refine AWp.mask [true, false, true, true, true, false, false, false, false, true, true, true] rfl ?_
      simp only [go_sem]
      refine AWp.block ?_
      refine AWp.loopS [false, true, true, true, true, true] [true, false, false, false, false, false, true] (fun n lc hc => ∃ (j c : Nat), n = (s.boxes[k]'hlt).mails.length - j ∧ EqS lc [(3, .d (.int .i64 (c : Nat))), (18, .d (.int .i64 j))] ∧ EqS hc (⟨[(b5, ⟨3, 1, [boxA (s.boxes[k]'hlt)]⟩), (b1, ⟨2, 1, [stateA s]⟩)], []⟩) ∧ (j ≤ (s.boxes[k]'hlt).mails.length) ∧ (c + bytesM ((s.boxes[k]'hlt).mails.drop j) = a + bytesM (s.boxes[k]'hlt).mails)) rfl ?_ ?_
      · refine ⟨_, 0, a, rfl, ?_, ?_, ?_, ?_⟩
        · (try simp only [go_sem]) <;> first | exact ⟨rfl⟩ | (constructor; simp; done)
        · (try simp only [go_sem]) <;> first | exact ⟨rfl⟩ | (constructor; simp; done)
        all_goals (first | omega | (simp; done))
      · rintro _ _ _ ⟨j, c, rfl, ⟨rfl⟩, ⟨rfl⟩, g1, g2⟩
        simp only [go_sem]
        refine AWp.rs fun K10 hK10 => ?_
        try simp only [go_sem]
        refine hK10 _ _ ?_
        try clear hK10 K10
        refine AWp.seq fun K11 hK11 => ?_
        refine AWp.cond _ rfl (fun hc1 => ?_) (fun hc1 => ?_)
        · skip
          try simp only [decide_eq_true_eq] at hc1
          have hlj : j < (s.boxes[k]'hlt).mails.length := by omega
          have hm := bytesM_t hlj
          refine AWp.skip ?_
          refine thenQ_n ?_
          refine hK11 _ _ ?_
          try clear hK11 K11
          refine AWp.seq fun K12 hK12 => ?_
          refine AWp.block ?_
          refine AWp.rs fun K13 hK13 => ?_
          try simp only [go_sem, mailD, mailsD_get (s.boxes[k]'hlt).mails j _ hlj]
          (repeat (with_reducible refine And.intro ?_ ?_; omega))
          intro b7
          first | intro fb7 | have fb7 := True.intro
          try simp only [freshL] at fb7
          refine hK13 _ _ ?_
          try clear hK13 K13
          refine AWp.rk fun K14 hK14 => ?_
          try simp only [go_sem, fb7]
          (repeat (with_reducible refine And.intro ?_ ?_; omega))
          refine hK14 _ _ ?_
          try clear hK14 K14
          refine blkQ_n (thenQ_n ?_)
          refine hK12 _ _ ?_
          try clear hK12 K12
          refine AWp.mask [true, false, true, true, true, true, true, true] rfl ?_
          simp only [go_sem]
          refine AWp.rk fun K15 hK15 => ?_
          try simp only [go_sem, icast]
          (repeat (with_reducible refine And.intro ?_ ?_; omega))
          refine hK15 _ _ ?_
          try clear hK15 K15
          refine thenQ_n ?_
          refine EndS.mk [false, true, true, true, true, true] [true, false, false, false, false, false, true] [b7] [] [b5, b1] [] rfl ?_ ?_
          · (try simp only [go_sem]) <;> try rfl
          refine .e ⟨_, ?_, j + 1, (c + (((s.boxes[k]'hlt).mails)[j]'hlj).text.length), rfl, ?_, ?_, ?_, ?_⟩
          · first | omega | (simp; omega) | (grind)
          · (try simp only [go_sem]) <;> first | exact ⟨rfl⟩ | (constructor; simp; done)
          · (try simp only [go_sem, fb5, fb7]) <;> first | exact ⟨rfl⟩ | (constructor; simp; done)
          all_goals first | omega | (rw [bytesM_t hlj] at g2; omega)
        · skip
          try simp only [decide_eq_false_iff_not, Int.not_lt] at hc1
          have hm := bytesM_end (l := (s.boxes[k]'hlt).mails) (k := j) (by omega)
          refine AWp.exit ?_
          refine thenQ_e (thenQ_e (blkQ_e (blkQ_n (thenQ_n ?_))))
          refine hK7 _ _ ?_
          try clear hK7 K7
          refine AWp.mask [true, true, true, true] rfl ?_
          simp only [go_sem]
          refine AWp.rk fun K16 hK16 => ?_
          try simp only [go_sem, icast]
          (repeat (with_reducible refine And.intro ?_ ?_; omega))
          refine hK16 _ _ ?_
          try clear hK16 K16
          refine thenQ_n ?_
          refine EndS.mk [false, true, true] [true, false, false, true] [b5] [] [b1] [] rfl ?_ ?_
          · (try simp only [go_sem]) <;> try rfl
          refine .e ⟨_, ?_, k + 1, c, rfl, ?_, ?_, ?_, ?_⟩
          · first | omega | (simp; omega) | (grind)
          · (try simp only [go_sem]) <;> first | exact ⟨rfl⟩ | (constructor; simp; done)
          · (try simp only [go_sem, fb5]) <;> first | exact ⟨rfl⟩ | (constructor; simp; done)
          all_goals first | omega | (rw [bytesB_t hlt, bytesM_end (by omega)] at *; omega)
    · skip
      try simp only [decide_eq_false_iff_not, Int.not_lt] at hc0
      refine AWp.exit ?_
      refine thenQ_e (thenQ_e (blkQ_e (thenQ_n ?_)))
      refine hK3 _ _ ?_
      try clear hK3 K3
      refine AWp.mask [true] rfl ?_
      simp only [go_sem]
      refine AWp.rs fun K17 hK17 => ?_
      try simp only [go_sem]
      refine hK17 _ _ ?_
      try clear hK17 K17
      refine AWp.ret ?_
      try simp only [go_sem]
      have hb := bytesB_end (l := s.boxes) (k := k) (by omega)
      have hk : a = bytesB s.boxes := by omega
      rw [hk]
set_option maxRecDepth 4000 in
set_option maxHeartbeats 1000000 in
theorem find1_c (T : Tbl) (x : BoxS) (t : Tx) (b : Nat) (F : List (Nat × Ob)) (L : List Nat) : AC Tryd.prog T 124 [.agg (boxA x), .ptr b 1 0 0] (⟨(b, ⟨1, 1, [[.d (.str t)]]⟩) :: F, L⟩) (fun r h => r = .ret (.d (.bool (decide (x.name = t)))) ∧ h = ⟨(b, ⟨1, 1, [[.d (.str t)]]⟩) :: F, L⟩) := by
  refine ⟨Tryd.call124, ACalls.enterS Tryd.func124 rfl Tryd.ntmps124 rfl fun hb => ?_⟩
  simp only [go_sem, Tryd.results124]
  refine AWp.rs fun K1 hK1 => ?_
  try simp only [go_sem]
  intro b2
  first | intro fb2 | have fb2 := True.intro
  try simp only [freshL] at fb2
  refine hK1 _ _ ?_
  try clear hK1 K1
  refine AWp.rs fun K2 hK2 => ?_
  try simp only [go_sem, fb2]
  refine hK2 _ _ ?_
  try clear hK2 K2
  refine AWp.mask [false, false, false, true] rfl ?_
  simp only [go_sem]
  refine AWp.ret ?_
  apply endW_r [b2] [] [] [] (by (try simp only [go_sem]); rfl)
  · exact ⟨rfl, by simp [go_sem]⟩
  · simp [LeA, LeD]
set_option maxRecDepth 4000 in
set_option maxHeartbeats 1000000 in
theorem IndexBox_c (T : Tbl) (l : List BoxS) (t : Tx) (b : Nat) (F : List (Nat × Ob)) (L : List Nat) (hl : l.length ≤ 1000) : AC Tryd.prog T 123 [.d (.slc 3 (boxesD l)), .fn 124 [.ptr b 1 0 0]] (⟨(b, ⟨1, 1, [[.d (.str t)]]⟩) :: F, L⟩) (fun r h => r = .ret (.d (.int .i64 (findI l t))) ∧ h = ⟨(b, ⟨1, 1, [[.d (.str t)]]⟩) :: F, L⟩) := by
  refine ⟨Tryd.call123, ACalls.enterS Tryd.func123 rfl Tryd.ntmps123 rfl fun hb => ?_⟩
  simp only [go_sem, Tryd.results123]
  refine AWp.rs fun K1 hK1 => ?_
  try simp only [go_sem]
  refine hK1 _ _ ?_
  try clear hK1 K1
  refine AWp.seq fun K2 hK2 => ?_
  refine AWp.rs fun K3 hK3 => ?_
  try simp only [go_sem]
  refine hK3 _ _ ?_
  try clear hK3 K3
  refine AWp.block ?_
  refine AWp.mask [true, true, false, false, true, true] rfl ?_
  simp only [go_sem]
  refine AWp.loopS [true, true, true] [false, false, false, true] (fun n lc hc => ∃ (k : Nat), n = l.length - k ∧ EqS lc [(8, .d (.int .i64 k))] ∧ EqS hc (⟨(b, ⟨1, 1, [[.d (.str t)]]⟩) :: F, L⟩) ∧ (k ≤ l.length) ∧ (findR l t k)) rfl ?_ ?_
  · refine ⟨_, 0, rfl, ?_, ?_, ?_, ?_⟩
    · (try simp only [go_sem]) <;> first | exact ⟨rfl⟩ | (constructor; simp; done)
    · (try simp only [go_sem, icast, boxD]) <;> first | exact ⟨rfl⟩ | (constructor; simp; done)
    all_goals (first | omega | exact findR_0 _ _)
  · rintro _ _ _ ⟨k, rfl, ⟨rfl⟩, ⟨rfl⟩, h1, h2⟩
    simp only [go_sem]
    refine AWp.rs fun K4 hK4 => ?_
    try simp only [go_sem]
    refine hK4 _ _ ?_
    try clear hK4 K4
    refine AWp.seq fun K5 hK5 => ?_
    refine AWp.cond _ rfl (fun hc0 => ?_) (fun hc0 => ?_)
    · skip
      try simp only [decide_eq_true_eq] at hc0
      have hlt : k < l.length := by omega
      refine AWp.skip ?_
      refine thenQ_n ?_
      refine hK5 _ _ ?_
      try clear hK5 K5
      refine AWp.seq fun K6 hK6 => ?_
      refine AWp.block ?_
      refine AWp.rs fun K7 hK7 => ?_
      try simp only [go_sem]
      refine hK7 _ _ ?_
      try clear hK7 K7
      refine AWp.rs fun K8 hK8 => ?_
      try simp only [go_sem, boxD, boxesD_get l k _ hlt]
      (repeat (with_reducible refine And.intro ?_ ?_; omega))
      refine DW.acp [b] [] rfl rfl rfl rfl (by (try simp only [go_sem]); rfl) rfl (find1_c T (l[k]'hlt) t b _ _) ?_
      rintro _ _ ⟨rfl, rfl⟩
      try simp only [go_sem]
      refine hK8 _ _ ?_
      try clear hK8 K8
      refine AWp.mask [true, true, true, true, true, false, false, false, false, false, false, false, true] rfl ?_
      simp only [go_sem]
      refine AWp.cond _ rfl (fun hc1 => ?_) (fun hc1 => ?_)
      · skip
        try simp only [decide_eq_true_eq] at hc1
        refine AWp.rs fun K9 hK9 => ?_
        try simp only [go_sem]
        refine hK9 _ _ ?_
        try clear hK9 K9
        refine AWp.mask [false, false, true] rfl ?_
        simp only [go_sem]
        refine AWp.ret ?_
        try simp only [thenQ, blkQ]
        apply endW_r [] [] [] [] (by (try simp only [go_sem]); rfl)
        · exact ⟨rfl, rfl⟩
        · rw [findR_t hlt h2 hc1]; simp [LeA, LeD]
      · skip
        try simp only [decide_eq_false_iff_not] at hc1
        refine AWp.skip ?_
        refine blkQ_n (thenQ_n ?_)
        refine hK6 _ _ ?_
        try clear hK6 K6
        refine AWp.rk fun K10 hK10 => ?_
        try simp only [go_sem, icast]
        (repeat (with_reducible refine And.intro ?_ ?_; omega))
        refine hK10 _ _ ?_
        try clear hK10 K10
        refine thenQ_n ?_
        refine EndS.mk [true, true, false, true] [false, false, false, false, true] [] [] [b] [] rfl ?_ ?_
        · (try simp only [go_sem]) <;> try rfl
        refine .e ⟨_, ?_, k + 1, rfl, ?_, ?_, ?_, ?_⟩
        · first | omega | (simp; omega) | (grind)
        · (try simp only [go_sem]) <;> first | exact ⟨rfl⟩ | (constructor; simp; done)
        · (try simp only [go_sem]) <;> first | exact ⟨rfl⟩ | (constructor; simp; done)
        · omega
        · exact findR_f hlt h2 hc1
    · skip
      try simp only [decide_eq_false_iff_not, Int.not_lt] at hc0
      refine AWp.exit ?_
      refine thenQ_e (thenQ_e (blkQ_e (thenQ_n ?_)))
      refine hK2 _ _ ?_
      try clear hK2 K2
      refine AWp.mask [] rfl ?_
      simp only [go_sem]
      refine AWp.rs fun K11 hK11 => ?_
      try simp only [go_sem]
      refine hK11 _ _ ?_
      try clear hK11 K11
      refine AWp.ret ?_
      apply endW_r [] [] [] [] (by (try simp only [go_sem]); rfl)
      · exact ⟨rfl, rfl⟩
      · rw [findR_end (by omega) h2]; simp [LeA, LeD]
set_option maxRecDepth 4000 in
set_option maxHeartbeats 1000000 in
theorem find_c (T : Tbl) (l : List BoxS) (t : Tx) (hl : l.length ≤ 1000) : PC Tryd.prog T 92 [.d (.slc 3 (boxesD l)), .d (.str t)] (.d (.int .i64 (findI l t))) := by
  refine ⟨Tryd.call92, PCall.enterS Tryd.func92 rfl Tryd.ntmps92 rfl fun hb => ?_⟩
  simp only [go_sem, Tryd.results92]
  refine AWp.rs fun K1 hK1 => ?_
  try simp only [go_sem, if_true]
  intro b3
  first | intro fb3 | have fb3 := True.intro
  try simp only [freshL] at fb3
  refine hK1 _ _ ?_
  try clear hK1 K1
  refine AWp.rs fun K2 hK2 => ?_
  try simp only [go_sem, Array.isEmpty_empty, if_true]
  refine DW.acp [b3] [] rfl rfl rfl rfl (by (try simp only [go_sem, if_true]); rfl) rfl (IndexBox_c T l t b3 _ _ hl) ?_
  rintro _ _ ⟨rfl, rfl⟩
  try simp only [go_sem, if_true]
  refine hK2 _ _ ?_
  try clear hK2 K2
  refine AWp.mask [false, false, false, true] rfl ?_
  simp only [go_sem]
  refine AWp.ret ?_
  try simp only [go_sem, if_true]
  all_goals done
end Go.Proofs.YthhfbolhlbgbgaaDoor

namespace Go.Proofs.YthhfbolhlbgbgaaDoor
set_option linter.unusedSimpArgs false
set_option linter.unusedVariables false
set_option maxRecDepth 4000 in
set_option maxHeartbeats 1000000 in
theorem StCheck_c (T : Tbl) (hL : LibT T) (s : St) (ok : StOk s) : PC Tryd.prog T 52 [.agg (stateA s)] (.d (.int .i64 (stE s))) := by
  refine ⟨Tryd.call52, PCall.enterS Tryd.func52 rfl Tryd.ntmps52 rfl fun hb => ?_⟩
  simp only [go_sem, Tryd.results52]
  refine AWp.rs fun K1 hK1 => ?_
  try simp only [go_sem]
  intro b1
  first | intro fb1 | have fb1 := True.intro
  try simp only [freshL] at fb1
  refine hK1 _ _ ?_
  try clear hK1 K1
  refine AWp.seq fun K2 hK2 => ?_
  refine AWp.rs fun K3 hK3 => ?_
  try simp only [go_sem]
  (repeat (with_reducible refine And.intro ?_ ?_; (exact nfB)))
  refine hK3 _ _ ?_
  try clear hK3 K3
  refine AWp.mask [false, true, false, false, false, false, false, false, false, false, false, false, true] rfl ?_
  simp only [go_sem]
  refine AWp.cond _ rfl (fun hc0 => ?_) (fun hc0 => ?_)
  · skip
    try simp only [decide_eq_true_eq, Bool.or_eq_true] at hc0
    refine AWp.rs fun K4 hK4 => ?_
    try simp only [go_sem]
    refine hK4 _ _ ?_
    try clear hK4 K4
    refine AWp.ret ?_
    try simp only [go_sem]
    rw [stE_0 (by omega)]
  · skip
    try simp only [decide_eq_false_iff_not, Bool.or_eq_false_iff, Int.not_lt] at hc0
    have h0 : ¬ (5 < s.boxes.length ∨ 20 < s.spool.length) := by omega
    refine AWp.skip ?_
    refine thenQ_n ?_
    refine hK2 _ _ ?_
    try clear hK2 K2
    refine AWp.seq fun K5 hK5 => ?_
    refine AWp.rs fun K6 hK6 => ?_
    try simp only [go_sem]
    refine hK6 _ _ ?_
    try clear hK6 K6
    refine AWp.block ?_
    refine AWp.mask [true, false, false, true, true, true] rfl ?_
    simp only [go_sem]
    refine AWp.loopS [true, true, true] [false, false, false, true] (fun n lc hc => ∃ (k : Nat), n = s.boxes.length - k ∧ EqS lc [(20, .d (.int .i64 k))] ∧ EqS hc (⟨[(b1, ⟨2, 1, [stateA s]⟩)], []⟩) ∧ (k ≤ s.boxes.length) ∧ (bxF (s.boxes.take k) (s.boxes.drop k) = bxF [] s.boxes)) rfl ?_ ?_
    · refine ⟨_, 0, rfl, ?_, ?_, ?_, ?_⟩
      · (try simp only [go_sem]) <;> first | exact ⟨rfl⟩ | (constructor; simp; done)
      · (try simp only [go_sem]) <;> first | exact ⟨rfl⟩ | (constructor; simp; done)
      all_goals (first | omega | rfl)
    · rintro _ _ _ ⟨k, rfl, ⟨rfl⟩, ⟨rfl⟩, h1, h2⟩
      simp only [go_sem]
      refine AWp.rs fun K7 hK7 => ?_
      try simp only [go_sem]
      refine hK7 _ _ ?_
      try clear hK7 K7
      refine AWp.seq fun K8 hK8 => ?_
      refine AWp.cond _ rfl (fun hc1 => ?_) (fun hc1 => ?_)
      · skip
        try simp only [decide_eq_true_eq] at hc1
        have hlt : k < s.boxes.length := by omega
        refine AWp.skip ?_
        refine thenQ_n ?_
        refine hK8 _ _ ?_
        try clear hK8 K8
        refine AWp.seq fun K9 hK9 => ?_
        refine AWp.block ?_
        refine AWp.rs fun K10 hK10 => ?_
        try simp only [go_sem, boxD, boxesD_get s.boxes k _ hlt]
        (repeat (with_reducible refine And.intro ?_ ?_; omega))
        intro b4
        first | intro fb4 | have fb4 := True.intro
        try simp only [freshL] at fb4
        refine hK10 _ _ ?_
        try clear hK10 K10
        refine AWp.mask [true, true, true, true, true, true] rfl ?_
        simp only [go_sem]
        refine AWp.ds true [0, 1, 2, 3, 4, 5, 6, 7, 8, 9, 10, 11, 12] rfl (by kernel_rfl) fun K11 hK11 => ?_
        try simp only [go_sem, fb4]
        refine DW.pcr rfl rfl rfl rfl (box_c T _ (ok.nm _ (List.getElem_mem hlt))) rfl rfl ?_
        try simp only [go_sem, boxesD_take, fb4]
        (repeat (with_reducible refine And.intro ?_ ?_; (intro hg; refine ⟨hg, ?_⟩; omega)))
        refine DW.pcgr rfl rfl rfl rfl rfl (fun hg => find_c T _ _ (by simp only [List.length_take]; omega)) (fun hg => by (try simp only [go_sem]) <;> first | exact hg | (exfalso; simp at hg; done) | (simpa using hg) | grind) rfl rfl ?_
        try simp only [go_sem]
        (repeat (with_reducible refine And.intro ?_ ?_; (exact nfB)))
        refine hK11 _ _ ?_
        try clear hK11 K11
        refine AWp.mask [true, false, false, true, true, true, false, false, false, false, false, false, false, false, false, false, false, false, true] rfl ?_
        simp only [go_sem]
        refine AWp.cond _ rfl (fun hc2 => ?_) (fun hc2 => ?_)
        · skip
          try simp only [decide_eq_true_eq, Bool.not_eq_true', Bool.or_eq_true] at hc2
          refine AWp.rs fun K12 hK12 => ?_
          try simp only [go_sem]
          refine hK12 _ _ ?_
          try clear hK12 K12
          refine AWp.mask [false, true] rfl ?_
          simp only [go_sem]
          refine AWp.ret ?_
          try simp only [go_sem]
          rw [stE_1 (by rw [← h2]; exact bx_f hlt (by rcases hc2 with h | h <;> first | exact .inl h | exact .inr (by omega)))]
        · skip
          try simp only [decide_eq_false_iff_not, Bool.not_eq_false', Bool.or_eq_false_iff, Int.not_le] at hc2
          refine AWp.skip ?_
          refine blkQ_n (thenQ_n ?_)
          refine hK9 _ _ ?_
          try clear hK9 K9
          refine AWp.rk fun K13 hK13 => ?_
          try simp only [go_sem, icast]
          (repeat (with_reducible refine And.intro ?_ ?_; omega))
          refine hK13 _ _ ?_
          try clear hK13 K13
          refine thenQ_n ?_
          refine EndS.mk [true, true, true] [false, false, false, true] [b4] [] [b1] [] rfl ?_ ?_
          · (try simp only [go_sem]) <;> try rfl
          refine .e ⟨_, ?_, k + 1, rfl, ?_, ?_, ?_, ?_⟩
          · first | omega | (simp; omega) | (grind)
          · (try simp only [go_sem]) <;> first | exact ⟨rfl⟩ | (constructor; simp; done)
          · (try simp only [go_sem, fb4]) <;> first | exact ⟨rfl⟩ | (constructor; simp; done)
          · omega
          · rw [← bx_t hlt hc2.1 (by omega)]; exact h2
      · skip
        try simp only [decide_eq_false_iff_not, Int.not_lt] at hc1
        have hbx : bxF [] s.boxes = true := by rw [← h2]; exact bx_end (by omega)
        have hsm := stE_small h0 hbx
        refine AWp.exit ?_
        refine thenQ_e (thenQ_e (blkQ_e (thenQ_n ?_)))
        refine hK5 _ _ ?_
        try clear hK5 K5
        refine AWp.mask [true] rfl ?_
        simp only [go_sem]
        refine AWp.seq fun K14 hK14 => ?_
        refine AWp.rs fun K15 hK15 => ?_
        try simp only [go_sem]
        refine hK15 _ _ ?_
        try clear hK15 K15
        refine AWp.block ?_
        refine AWp.mask [true, false, true, true, true] rfl ?_
        simp only [go_sem]
        refine AWp.loopS [true, true, true] [false, false, false, true] (fun n lc hc => ∃ (k : Nat), n = s.spool.length - k ∧ EqS lc [(42, .d (.int .i64 k))] ∧ EqS hc (⟨[(b1, ⟨2, 1, [stateA s]⟩)], []⟩) ∧ (k ≤ s.spool.length) ∧ (spF (s.spool.drop k) = spF s.spool)) rfl ?_ ?_
        · refine ⟨_, 0, rfl, ?_, ?_, ?_, ?_⟩
          · (try simp only [go_sem]) <;> first | exact ⟨rfl⟩ | (constructor; simp; done)
          · (try simp only [go_sem]) <;> first | exact ⟨rfl⟩ | (constructor; simp; done)
          all_goals (first | omega | rfl)
        · rintro _ _ _ ⟨k, rfl, ⟨rfl⟩, ⟨rfl⟩, g1, g2⟩
          simp only [go_sem]
          refine AWp.rs fun K16 hK16 => ?_
          try simp only [go_sem]
          refine hK16 _ _ ?_
          try clear hK16 K16
          refine AWp.seq fun K17 hK17 => ?_
          refine AWp.cond _ rfl (fun hc3 => ?_) (fun hc3 => ?_)
          · skip
            try simp only [decide_eq_true_eq] at hc3
            have hlt : k < s.spool.length := by omega
            refine AWp.skip ?_
            refine thenQ_n ?_
            refine hK17 _ _ ?_
            try clear hK17 K17
            refine AWp.seq fun K18 hK18 => ?_
            refine AWp.block ?_
            refine AWp.rs fun K19 hK19 => ?_
            try simp only [go_sem, entD, entsD_get s.spool k _ hlt]
            (repeat (with_reducible refine And.intro ?_ ?_; omega))
            intro b6
            first | intro fb6 | have fb6 := True.intro
            try simp only [freshL] at fb6
            refine hK19 _ _ ?_
            try clear hK19 K19
            refine AWp.rs fun K20 hK20 => ?_
            try simp only [go_sem, fb6]
            refine DW.pcgr rfl rfl rfl rfl rfl (fun hg => Form_e T hL (ok.sp _ (List.getElem_mem hlt))) (fun hg => by (try simp only [go_sem]) <;> first | exact hg | (exfalso; simp at hg; done) | (simpa using hg) | grind) rfl rfl ?_
            try simp only [go_sem]
            (repeat (with_reducible refine And.intro ?_ ?_; (exact nfB)))
            refine hK20 _ _ ?_
            try clear hK20 K20
            refine AWp.mask [true, false, true, true, true, false, false, false, false, false, false, false, false, false, false, true] rfl ?_
            simp only [go_sem]
            refine AWp.cond _ rfl (fun hc4 => ?_) (fun hc4 => ?_)
            · skip
              try simp only [decide_eq_false_iff_not, Bool.not_eq_true', Bool.or_eq_true] at hc4
              refine AWp.rs fun K21 hK21 => ?_
              try simp only [go_sem]
              refine hK21 _ _ ?_
              try clear hK21 K21
              refine AWp.mask [false, true] rfl ?_
              simp only [go_sem]
              refine AWp.ret ?_
              try simp only [go_sem]
              rw [stE_2 (by rw [← g2]; exact sp_f hlt (by omega))]
            · skip
              try simp only [decide_eq_true_eq, Bool.not_eq_false', Bool.or_eq_false_iff] at hc4
              refine AWp.skip ?_
              refine blkQ_n (thenQ_n ?_)
              refine hK18 _ _ ?_
              try clear hK18 K18
              refine AWp.rk fun K22 hK22 => ?_
              try simp only [go_sem, icast]
              (repeat (with_reducible refine And.intro ?_ ?_; omega))
              refine hK22 _ _ ?_
              try clear hK22 K22
              refine thenQ_n ?_
              refine EndS.mk [true, true, true] [false, false, false, true] [b6] [] [b1] [] rfl ?_ ?_
              · (try simp only [go_sem]) <;> try rfl
              refine .e ⟨_, ?_, k + 1, rfl, ?_, ?_, ?_, ?_⟩
              · first | omega | (simp; omega) | (grind)
              · (try simp only [go_sem]) <;> first | exact ⟨rfl⟩ | (constructor; simp; done)
              · (try simp only [go_sem, fb6]) <;> first | exact ⟨rfl⟩ | (constructor; simp; done)
              · omega
              · rw [← sp_t hlt hc4]; exact g2
          · skip
            try simp only [decide_eq_false_iff_not, Int.not_lt] at hc3
            have hsp : spF s.spool = true := by rw [← g2]; exact sp_end (by omega)
            refine AWp.exit ?_
            refine thenQ_e (thenQ_e (blkQ_e (thenQ_n ?_)))
            refine hK14 _ _ ?_
            try clear hK14 K14
            refine AWp.mask [true] rfl ?_
            simp only [go_sem]
            refine AWp.seq fun K23 hK23 => ?_
            refine AWp.rs fun K24 hK24 => ?_
            try simp only [go_sem]
            refine DW.pcr rfl rfl rfl rfl (size_c T s (stE_B h0 hbx)) rfl rfl ?_
            try simp only [go_sem]
            refine hK24 _ _ ?_
            try clear hK24 K24
            refine AWp.cond _ rfl (fun hc5 => ?_) (fun hc5 => ?_)
            · skip
              try simp only [decide_eq_true_eq] at hc5
              refine AWp.rs fun K25 hK25 => ?_
              try simp only [go_sem]
              refine hK25 _ _ ?_
              try clear hK25 K25
              refine AWp.mask [false, true] rfl ?_
              simp only [go_sem]
              refine AWp.ret ?_
              try simp only [go_sem]
              rw [stE_3 (by omega)]
            · skip
              try simp only [decide_eq_false_iff_not, Int.not_lt] at hc5
              refine AWp.skip ?_
              refine thenQ_n ?_
              refine hK23 _ _ ?_
              try clear hK23 K23
              refine AWp.mask [] rfl ?_
              simp only [go_sem]
              refine AWp.rs fun K26 hK26 => ?_
              try simp only [go_sem]
              refine hK26 _ _ ?_
              try clear hK26 K26
              refine AWp.ret ?_
              try simp only [go_sem]
              rw [stE_t h0 hbx hsp (by omega)]
set_option maxRecDepth 4000 in
set_option maxHeartbeats 1000000 in
theorem boxOf_c (T : Tbl) (l : List BoxS) (t : Tx) (hl : l.length ≤ 1000) : PC Tryd.prog T 55 [.d (.slc 3 (boxesD l)), .d (.str t)] (.d (.int .i64 (findI l t))) := by
  refine ⟨Tryd.call55, PCall.enterS Tryd.func55 rfl Tryd.ntmps55 rfl fun hb => ?_⟩
  simp only [go_sem, Tryd.results55]
  refine AWp.rs fun K1 hK1 => ?_
  try simp only [go_sem]
  refine hK1 _ _ ?_
  try clear hK1 K1
  refine AWp.seq fun K2 hK2 => ?_
  refine AWp.rs fun K3 hK3 => ?_
  try simp only [go_sem]
  refine hK3 _ _ ?_
  try clear hK3 K3
  refine AWp.block ?_
  refine AWp.mask [true, true, false, true] rfl ?_
  simp only [go_sem]
  refine AWp.loopS [true, true] [false, false, true] (fun n lc hc => ∃ (k : Nat), n = l.length - k ∧ EqS lc [(5, .d (.int .i64 k))] ∧ EqS hc (⟨[], []⟩) ∧ (k ≤ l.length) ∧ (findR l t k)) rfl ?_ ?_
  · refine ⟨_, 0, rfl, ?_, ?_, ?_, ?_⟩
    · (try simp only [go_sem]) <;> first | exact ⟨rfl⟩ | (constructor; simp; done)
    · (try simp only [go_sem, icast, boxD]) <;> first | exact ⟨rfl⟩ | (constructor; simp; done)
    all_goals (first | omega | exact findR_0 _ _)
  · rintro _ _ _ ⟨k, rfl, ⟨rfl⟩, ⟨rfl⟩, h1, h2⟩
    simp only [go_sem]
    refine AWp.seq fun K4 hK4 => ?_
    refine AWp.rs fun K5 hK5 => ?_
    try simp only [go_sem]
    refine hK5 _ _ ?_
    try clear hK5 K5
    refine AWp.cond _ rfl (fun hc0 => ?_) (fun hc0 => ?_)
    · skip
      try simp only [decide_eq_true_eq] at hc0
      have hlt : k < l.length := by omega
      refine AWp.skip ?_
      refine thenQ_n ?_
      refine hK4 _ _ ?_
      try clear hK4 K4
      refine AWp.mask [true, true, true] rfl ?_
      simp only [go_sem]
      refine AWp.seq fun K6 hK6 => ?_
      refine AWp.block ?_
      refine AWp.rs fun K7 hK7 => ?_
      try simp only [go_sem, boxD, boxesD_get l k _ hlt]
      (repeat (with_reducible refine And.intro ?_ ?_; omega))
      refine hK7 _ _ ?_
      try clear hK7 K7
      refine AWp.mask [true, true, true, false, false, false, false, false, false, true] rfl ?_
      simp only [go_sem]
      refine AWp.cond _ rfl (fun hc1 => ?_) (fun hc1 => ?_)
      · skip
        try simp only [decide_eq_true_eq] at hc1
        refine AWp.rs fun K8 hK8 => ?_
        try simp only [go_sem]
        refine hK8 _ _ ?_
        try clear hK8 K8
        refine AWp.mask [false, false, true] rfl ?_
        simp only [go_sem]
        refine AWp.ret ?_
        try simp only [go_sem]
        rw [findR_t hlt h2 hc1]
      · skip
        try simp only [decide_eq_false_iff_not] at hc1
        refine AWp.skip ?_
        refine blkQ_n (thenQ_n ?_)
        refine hK6 _ _ ?_
        try clear hK6 K6
        refine AWp.rk fun K9 hK9 => ?_
        try simp only [go_sem, icast]
        (repeat (with_reducible refine And.intro ?_ ?_; omega))
        refine hK9 _ _ ?_
        try clear hK9 K9
        refine thenQ_n ?_
        refine EndS.mkr [true, true] [false, false, true] rfl ?_ ?_
        · (try simp only [go_sem]) <;> try rfl
        refine .e ⟨_, ?_, k + 1, rfl, ?_, ?_, ?_, ?_⟩
        · first | omega | (simp; omega) | (grind)
        · (try simp only [go_sem]) <;> first | exact ⟨rfl⟩ | (constructor; simp; done)
        · (try simp only [go_sem, icast, boxD, boxesD_get l k _ hlt]) <;> first | exact ⟨rfl⟩ | (constructor; simp; done)
        · omega
        · exact findR_f hlt h2 hc1
    · skip
      try simp only [decide_eq_false_iff_not, Int.not_lt] at hc0
      refine AWp.exit ?_
      refine thenQ_e (thenQ_e (blkQ_e (thenQ_n ?_)))
      refine hK2 _ _ ?_
      try clear hK2 K2
      refine AWp.mask [] rfl ?_
      simp only [go_sem]
      refine AWp.rs fun K10 hK10 => ?_
      try simp only [go_sem]
      refine hK10 _ _ ?_
      try clear hK10 K10
      refine AWp.ret ?_
      try simp only [go_sem]
      rw [findR_end (by omega) h2]
set_option maxRecDepth 4000 in
set_option maxHeartbeats 1000000 in
theorem BytesOf_c (T : Tbl) (s : St) (sb : StB s) : PC Tryd.prog T 18 [.agg (stateA s)] (.d (.int .i64 (bytesB s.boxes : Nat))) := by
  refine ⟨Tryd.call18, PCall.enterS Tryd.func18 rfl Tryd.ntmps18 rfl fun hb => ?_⟩
  obtain ⟨sb1, sb2, sb3⟩ := sb
  simp only [go_sem, Tryd.results18]
  refine AWp.rs fun K1 hK1 => ?_
  try simp only [go_sem]
  intro b1
  first | intro fb1 | have fb1 := True.intro
  try simp only [freshL] at fb1
  refine hK1 _ _ ?_
  try clear hK1 K1
  refine AWp.rs fun K2 hK2 => ?_
  try simp only [go_sem]
  refine hK2 _ _ ?_
  try clear hK2 K2
  refine AWp.seq fun K3 hK3 => ?_
  refine AWp.rs fun K4 hK4 => ?_
  try simp only [go_sem]
  refine hK4 _ _ ?_
  try clear hK4 K4
  refine AWp.block ?_
  refine AWp.mask [false, true, false, true, true] rfl ?_
  simp only [go_sem]
  refine AWp.loopS [true] [false, true, true] (fun n lc hc => ∃ (k a : Nat), n = s.boxes.length - k ∧ EqS lc [(3, .d (.int .i64 (a : Nat))), (4, .d (.int .i64 k))] ∧ EqS hc (⟨[(b1, ⟨2, 1, [stateA s]⟩)], []⟩) ∧ (k ≤ s.boxes.length) ∧ (a + bytesB (s.boxes.drop k) = bytesB s.boxes)) rfl ?_ ?_
  · refine ⟨_, 0, 0, rfl, ?_, ?_, ?_, ?_⟩
    · (try simp only [go_sem]) <;> first | exact ⟨rfl⟩ | (constructor; simp; done)
    · (try simp only [go_sem]) <;> first | exact ⟨rfl⟩ | (constructor; simp; done)
    all_goals (first | omega | (simp; done))
  · rintro _ _ _ ⟨k, a, rfl, ⟨rfl⟩, ⟨rfl⟩, h1, h2⟩
    simp only [go_sem]
    refine AWp.seq fun K5 hK5 => ?_
    refine AWp.rs fun K6 hK6 => ?_
    try simp only [go_sem]
    refine hK6 _ _ ?_
    try clear hK6 K6
    refine AWp.mask [true, true, true, false, false, false, false, true] rfl ?_
    simp only [go_sem]
    refine AWp.cond _ rfl (fun hc0 => ?_) (fun hc0 => ?_)
    · skip
      try simp only [decide_eq_true_eq] at hc0
      have hlt : k < s.boxes.length := by omega
      have hb := bytesB_t hlt
      have hm3 := sb2 _ (List.getElem_mem hlt)
      refine AWp.skip ?_
      refine thenQ_n ?_
      refine hK5 _ _ ?_
      try clear hK5 K5
      refine AWp.seq fun K7 hK7 => ?_
      refine AWp.block ?_
      refine AWp.rs fun K8 hK8 => ?_
      try simp only [go_sem]
      refine hK8 _ _ ?_
      try clear hK8 K8
      refine AWp.block ?_
      refine AWp.mask [true, true, true, true] rfl ?_
      simp only [go_sem]
      refine AWp.loopS [true, false, true] [false, true, false, true] (fun n lc hc => ∃ (j c : Nat), n = (s.boxes[k]'hlt).mails.length - j ∧ EqS lc [(3, .d (.int .i64 (c : Nat))), (5, .d (.int .i64 j))] ∧ EqS hc (⟨[(b1, ⟨2, 1, [stateA s]⟩)], []⟩) ∧ (j ≤ (s.boxes[k]'hlt).mails.length) ∧ (c + bytesM ((s.boxes[k]'hlt).mails.drop j) = a + bytesM (s.boxes[k]'hlt).mails)) rfl ?_ ?_
      · refine ⟨_, 0, a, rfl, ?_, ?_, ?_, ?_⟩
        · (try simp only [go_sem]) <;> first | exact ⟨rfl⟩ | (constructor; simp; done)
        · (try simp only [go_sem]) <;> first | exact ⟨rfl⟩ | (constructor; simp; done)
        all_goals (first | omega | (simp; done))
      · rintro _ _ _ ⟨j, c, rfl, ⟨rfl⟩, ⟨rfl⟩, g1, g2⟩
        simp only [go_sem]
        refine AWp.seq fun K9 hK9 => ?_
        refine AWp.rs fun K10 hK10 => ?_
        try simp only [go_sem, boxD, boxesD_get s.boxes k _ hlt]
        (repeat (with_reducible refine And.intro ?_ ?_; omega))
        refine hK10 _ _ ?_
        try clear hK10 K10
        refine AWp.mask [true, true, true, true, false, false, false, false, false, false, false, false, true] rfl ?_
        simp only [go_sem]
        refine AWp.cond _ rfl (fun hc1 => ?_) (fun hc1 => ?_)
        · skip
          try simp only [decide_eq_true_eq] at hc1
          have hlj : j < (s.boxes[k]'hlt).mails.length := by omega
          have hm := bytesM_t hlj
          refine AWp.skip ?_
          refine thenQ_n ?_
          refine hK9 _ _ ?_
          try clear hK9 K9
          refine AWp.seq fun K11 hK11 => ?_
          refine AWp.block ?_
          refine AWp.rk fun K12 hK12 => ?_
          try simp only [go_sem, boxD, mailD, boxesD_get s.boxes k _ hlt, mailsD_get (s.boxes[k]'hlt).mails j _ hlj]
          (repeat (with_reducible refine And.intro ?_ ?_; omega))
          refine hK12 _ _ ?_
          try clear hK12 K12
          refine blkQ_n (thenQ_n ?_)
          refine hK11 _ _ ?_
          try clear hK11 K11
          refine AWp.mask [true, true, true, true] rfl ?_
          simp only [go_sem]
          refine AWp.rk fun K13 hK13 => ?_
          try simp only [go_sem, icast]
          (repeat (with_reducible refine And.intro ?_ ?_; omega))
          refine hK13 _ _ ?_
          try clear hK13 K13
          refine thenQ_n ?_
          refine EndS.mk [true, false, true] [false, true, false, true] [] [] [b1] [] rfl ?_ ?_
          · (try simp only [go_sem]) <;> try rfl
          refine .e ⟨_, ?_, j + 1, (c + (((s.boxes[k]'hlt).mails)[j]'hlj).text.length), rfl, ?_, ?_, ?_, ?_⟩
          · first | omega | (simp; omega) | (grind)
          · (try simp only [go_sem]) <;> first | exact ⟨rfl⟩ | (constructor; simp; done)
          · (try simp only [go_sem]) <;> first | exact ⟨rfl⟩ | (constructor; simp; done)
          all_goals first | omega | (rw [bytesM_t hlj] at g2; omega)
        · skip
          try simp only [decide_eq_false_iff_not, Int.not_lt] at hc1
          have hm := bytesM_end (l := (s.boxes[k]'hlt).mails) (k := j) (by omega)
          refine AWp.exit ?_
          refine thenQ_e (thenQ_e (blkQ_e (blkQ_n (thenQ_n ?_))))
          refine hK7 _ _ ?_
          try clear hK7 K7
          refine AWp.rk fun K14 hK14 => ?_
          try simp only [go_sem, icast]
          (repeat (with_reducible refine And.intro ?_ ?_; omega))
          refine hK14 _ _ ?_
          try clear hK14 K14
          refine thenQ_n ?_
          refine EndS.mk [true] [false, true, true] [] [] [b1] [] rfl ?_ ?_
          · (try simp only [go_sem]) <;> try rfl
          refine .e ⟨_, ?_, k + 1, c, rfl, ?_, ?_, ?_, ?_⟩
          · first | omega | (simp; omega) | (grind)
          · (try simp only [go_sem]) <;> first | exact ⟨rfl⟩ | (constructor; simp; done)
          · (try simp only [go_sem]) <;> first | exact ⟨rfl⟩ | (constructor; simp; done)
          all_goals first | omega | (rw [bytesB_t hlt, bytesM_end (by omega)] at *; omega)
    · skip
      try simp only [decide_eq_false_iff_not, Int.not_lt] at hc0
      refine AWp.exit ?_
      refine thenQ_e (thenQ_e (blkQ_e (thenQ_n ?_)))
      refine hK3 _ _ ?_
      try clear hK3 K3
      refine AWp.rs fun K15 hK15 => ?_
      try simp only [go_sem]
      refine hK15 _ _ ?_
      try clear hK15 K15
      refine AWp.mask [false, true] rfl ?_
      simp only [go_sem]
      refine AWp.ret ?_
      try simp only [go_sem]
      have hb := bytesB_end (l := s.boxes) (k := k) (by omega)
      have hk : a = bytesB s.boxes := by omega
      rw [hk]
theorem ml_f' {b : BoxS} (h0 : ¬ (nameE b.name ≠ 0 ∨ b.next < 1 ∨ 1048577 < b.next ∨ 30 < b.mails.length)) (h : mlF b.next 0 b.mails = false) : boxOk b = false := by rw [boxOk_t h0]; exact h
theorem gtF {j : Nat} (h : j = 0) : ((0 : Int) < (j : Int)) = False := by simp [h]
theorem gtT {j : Nat} (h : 0 < j) : ((0 : Int) < (j : Int)) = True := by simp [h]
theorem subP {j : Nat} (h : 0 < j) : (j : Int) - 1 = ((j - 1 : Nat) : Int) := by omega
set_option maxRecDepth 4000 in
set_option maxHeartbeats 1000000 in
theorem StateFault_c (T : Tbl) (hL : LibT T) (s : St) (ok : StOk s) : PC Tryd.prog T 17 [.agg (stateA s)] (.d (.int .i64 (stE s))) := by
  refine ⟨Tryd.call17, PCall.enterS Tryd.func17 rfl Tryd.ntmps17 rfl fun hb => ?_⟩
  simp only [go_sem, Tryd.results17]
  refine AWp.rs fun K1 hK1 => ?_
  try simp only [go_sem]
  intro b1
  first | intro fb1 | have fb1 := True.intro
  try simp only [freshL] at fb1
  refine hK1 _ _ ?_
  try clear hK1 K1
  refine AWp.seq fun K2 hK2 => ?_
  refine AWp.rs fun K3 hK3 => ?_
  try simp only [go_sem]
  (repeat (with_reducible refine And.intro ?_ ?_; (exact nfB)))
  refine hK3 _ _ ?_
  try clear hK3 K3
  refine AWp.mask [false, true, false, false, false, false, false, false, false, false, false, false, true] rfl ?_
  simp only [go_sem]
  refine AWp.cond _ rfl (fun hc0 => ?_) (fun hc0 => ?_)
  · skip
    try simp only [decide_eq_true_eq, Bool.or_eq_true] at hc0
    refine AWp.rs fun K4 hK4 => ?_
    try simp only [go_sem]
    refine hK4 _ _ ?_
    try clear hK4 K4
    refine AWp.ret ?_
    try simp only [go_sem]
    rw [stE_0 (by omega)]
  · skip
    try simp only [decide_eq_false_iff_not, Bool.or_eq_false_iff, Int.not_lt] at hc0
    have h0 : ¬ (5 < s.boxes.length ∨ 20 < s.spool.length) := by omega
    refine AWp.skip ?_
    refine thenQ_n ?_
    refine hK2 _ _ ?_
    try clear hK2 K2
    refine AWp.seq fun K5 hK5 => ?_
    refine AWp.rs fun K6 hK6 => ?_
    try simp only [go_sem]
    refine hK6 _ _ ?_
    try clear hK6 K6
    refine AWp.block ?_
    refine AWp.mask [true, true] rfl ?_
    simp only [go_sem]
    refine AWp.loopS [true] [false, true] (fun n lc hc => ∃ (k : Nat), n = s.boxes.length - k ∧ EqS lc [(3, .d (.int .i64 k))] ∧ EqS hc (⟨[(b1, ⟨2, 1, [stateA s]⟩)], []⟩) ∧ (k ≤ s.boxes.length) ∧ (bxF (s.boxes.take k) (s.boxes.drop k) = bxF [] s.boxes)) rfl ?_ ?_
    · refine ⟨_, 0, rfl, ?_, ?_, ?_, ?_⟩
      · (try simp only [go_sem]) <;> first | exact ⟨rfl⟩ | (constructor; simp; done)
      · (try simp only [go_sem]) <;> first | exact ⟨rfl⟩ | (constructor; simp; done)
      all_goals (first | omega | rfl)
    · rintro _ _ _ ⟨k, rfl, ⟨rfl⟩, ⟨rfl⟩, h1, h2⟩
      simp only [go_sem]
      refine AWp.seq fun K7 hK7 => ?_
      refine AWp.rs fun K8 hK8 => ?_
      try simp only [go_sem]
      refine hK8 _ _ ?_
      try clear hK8 K8
      refine AWp.mask [true, true, false, false, false, false, true] rfl ?_
      simp only [go_sem]
      refine AWp.cond _ rfl (fun hc1 => ?_) (fun hc1 => ?_)
      · skip
        try simp only [decide_eq_true_eq] at hc1
        have hlt : k < s.boxes.length := by omega
        refine AWp.skip ?_
        refine thenQ_n ?_
        refine hK7 _ _ ?_
        try clear hK7 K7
        refine AWp.seq fun K9 hK9 => ?_
        refine AWp.block ?_
        refine AWp.rs fun K10 hK10 => ?_
        try simp only [go_sem, boxD, boxesD_get s.boxes k _ hlt]
        (repeat (with_reducible refine And.intro ?_ ?_; omega))
        intro b4
        first | intro fb4 | have fb4 := True.intro
        try simp only [freshL] at fb4
        refine hK10 _ _ ?_
        try clear hK10 K10
        refine AWp.mask [true, true, true] rfl ?_
        simp only [go_sem]
        refine AWp.seq fun K11 hK11 => ?_
        refine AWp.ds true [0, 1, 2, 3, 4, 5, 6, 7, 8, 9, 10, 11, 12, 13, 14, 15, 16, 17, 18, 19, 20, 21, 22, 23, 24, 25] rfl (by kernel_rfl) fun K12 hK12 => ?_
        try simp only [go_sem, fb4]
        refine DW.pcr rfl rfl rfl rfl (BoxName_c T _ (ok.nm _ (List.getElem_mem hlt))) rfl rfl ?_
        try simp only [go_sem, boxesD_take, fb4]
        (repeat (with_reducible refine And.intro ?_ ?_; (intro hg; refine ⟨hg, ?_⟩; omega)))
        refine DW.pcgr rfl rfl rfl rfl rfl (fun hg => boxOf_c T _ _ (by simp only [List.length_take]; omega)) (fun hg => by (try simp only [go_sem]) <;> first | exact hg | (exfalso; simp at hg; done) | (simpa using hg) | grind) rfl rfl ?_
        try simp only [go_sem, fb4]
        (repeat (with_reducible refine And.intro ?_ ?_; (exact nfB)))
        refine DW.pcgr rfl rfl rfl rfl rfl (fun hg => In_c T _ _ _) (fun hg => by (try simp only [go_sem]) <;> first | exact hg | (exfalso; simp at hg; done) | (simpa using hg) | grind) rfl rfl ?_
        try simp only [go_sem, fb4]
        (repeat (with_reducible refine And.intro ?_ ?_; (exact nfB)))
        refine hK12 _ _ ?_
        try clear hK12 K12
        refine AWp.mask [true, true, true, false, false, false, false, false, false, false, false, false, false, false, false, false, false, false, false, false, false, false, false, false, false, false, false, false, true] rfl ?_
        simp only [go_sem]
        refine AWp.cond _ rfl (fun hc2 => ?_) (fun hc2 => ?_)
        · skip
          try simp only [decide_eq_true_eq, decide_eq_false_iff_not, Bool.not_eq_true', Bool.or_eq_true, Bool.and_eq_false_iff, Int.not_le] at hc2
          refine AWp.rs fun K13 hK13 => ?_
          try simp only [go_sem]
          refine hK13 _ _ ?_
          try clear hK13 K13
          refine AWp.mask [false, true] rfl ?_
          simp only [go_sem]
          refine AWp.ret ?_
          try simp only [go_sem]
          rw [stE_1 (by rw [← h2]; refine bx_f hlt ?_; by_cases hq : 0 ≤ findI (s.boxes.take k) (s.boxes[k]'hlt).name; exact .inr hq; exact .inl (boxOk_0 (by omega)))]
        · skip
          try simp only [decide_eq_true_eq, decide_eq_false_iff_not, Bool.not_eq_false', Bool.and_eq_true, Bool.or_eq_false_iff, Int.not_lt, Int.not_le] at hc2
          have hk0 : ¬ (nameE (s.boxes[k]'hlt).name ≠ 0 ∨ (s.boxes[k]'hlt).next < 1 ∨ 1048577 < (s.boxes[k]'hlt).next ∨ 30 < (s.boxes[k]'hlt).mails.length) := by omega
          have hkf : findI (s.boxes.take k) (s.boxes[k]'hlt).name < 0 := by omega
          refine AWp.skip ?_
          refine thenQ_n ?_
          refine hK11 _ _ ?_
          try clear hK11 K11
          refine AWp.rs fun K14 hK14 => ?_
          try simp only [go_sem]
          refine hK14 _ _ ?_
          try clear hK14 K14
          refine AWp.block ?_
          refine AWp.mask [true, true, true, true] rfl ?_
          simp only [go_sem]
          refine AWp.loopS [true, true, true] [false, false, false, true] (fun n lc hc => ∃ (j : Nat) (la : Int), n = (s.boxes[k]'hlt).mails.length - j ∧ EqS lc [(5, .d (.int .i64 j))] ∧ EqS hc (⟨[(b4, ⟨3, 1, [boxA (s.boxes[k]'hlt)]⟩), (b1, ⟨2, 1, [stateA s]⟩)], []⟩) ∧ (j ≤ (s.boxes[k]'hlt).mails.length) ∧ (mlF (s.boxes[k]'hlt).next la ((s.boxes[k]'hlt).mails.drop j) = mlF (s.boxes[k]'hlt).next 0 (s.boxes[k]'hlt).mails) ∧ (0 ≤ la) ∧ (j = 0 → la = 0) ∧ (∀ i (h : i < (s.boxes[k]'hlt).mails.length), j = i + 1 → la = ((s.boxes[k]'hlt).mails[i]'h).uid)) rfl ?_ ?_
          · refine ⟨_, 0, 0, rfl, ?_, ?_, ?_, ?_, ?_, ?_, ?_⟩
            · (try simp only [go_sem]) <;> first | exact ⟨rfl⟩ | (constructor; simp; done)
            · (try simp only [go_sem]) <;> first | exact ⟨rfl⟩ | (constructor; simp; done)
            all_goals (first | omega | rfl | (intro i h e; omega) | (intro _; rfl))
          · rintro _ _ _ ⟨j, la, rfl, ⟨rfl⟩, ⟨rfl⟩, g1, g2, g3, g4, g5⟩
            simp only [go_sem]
            refine AWp.seq fun K15 hK15 => ?_
            refine AWp.rs fun K16 hK16 => ?_
            try simp only [go_sem, fb4]
            refine hK16 _ _ ?_
            try clear hK16 K16
            refine AWp.mask [true, true, true, true, false, false, false, false, true] rfl ?_
            simp only [go_sem]
            refine AWp.cond _ rfl (fun hc3 => ?_) (fun hc3 => ?_)
            · skip
              try simp only [decide_eq_true_eq] at hc3
              have hlj : j < (s.boxes[k]'hlt).mails.length := by omega
              refine AWp.skip ?_
              refine thenQ_n ?_
              refine hK15 _ _ ?_
              try clear hK15 K15
              refine AWp.seq fun K17 hK17 => ?_
              refine AWp.block ?_
              refine AWp.rs fun K18 hK18 => ?_
              try simp only [go_sem, mailD, fb4, mailsD_get (s.boxes[k]'hlt).mails j _ hlj]
              (repeat (with_reducible refine And.intro ?_ ?_; omega))
              intro b6
              first | intro fb6 | have fb6 := True.intro
              try simp only [freshL] at fb6
              refine hK18 _ _ ?_
              try clear hK18 K18
              refine AWp.mask [true, true, true, true, true] rfl ?_
              simp only [go_sem]
              rcases Nat.eq_zero_or_pos j with hj0 | hj0
              · skip
                have hla := g4 hj0
                refine AWp.ds true [0, 1, 2, 3, 4, 5, 6, 7, 8, 9, 10, 11, 12, 13, 14, 15, 16, 17, 18, 19, 20, 21, 22, 23, 24, 25, 26, 27, 28, 29, 30, 31, 32, 33, 34] rfl (by kernel_rfl) fun K19 hK19 => ?_
                try simp only [go_sem, fb4, fb6, Bool.false_eq_true, true_and]
                (repeat (with_reducible refine And.intro ?_ ?_; omega))
                refine DW.pcr rfl rfl rfl rfl (In_c T _ _ _) rfl rfl ?_
                try simp only [go_sem, fb4, fb6, gtF hj0, decide_false, Bool.and_false, Bool.false_and, Bool.false_eq_true, false_implies, true_and]
                (repeat (with_reducible refine And.intro ?_ ?_; (exact nfB)))
                refine DW.pcgr rfl rfl rfl rfl rfl (fun hg => In_c T _ _ _) (fun hg => by (try simp only [go_sem]) <;> first | exact hg | (exfalso; simp at hg; done) | (simpa using hg) | grind) rfl rfl ?_
                try simp only [go_sem, fb6, Bool.false_eq_true, true_and]
                (repeat (with_reducible refine And.intro ?_ ?_; (exact nfB)))
                refine hK19 _ _ ?_
                try clear hK19 K19
                refine AWp.mask [true, true, true, true, false, false, false, false, false, false, false, false, false, false, false, false, false, false, false, false, false, false, false, false, false, false, false, false, false, false, false, false, false, false, false, false, false, false, false, true] rfl ?_
                simp only [go_sem]
                refine AWp.cond _ rfl (fun hc4 => ?_) (fun hc4 => ?_)
                · skip
                  try simp only [decide_eq_true_eq, decide_eq_false_iff_not, Bool.not_eq_true', Bool.or_eq_true, Bool.and_eq_false_iff, Int.not_le] at hc4
                  refine AWp.rs fun K20 hK20 => ?_
                  try simp only [go_sem, true_and]
                  refine hK20 _ _ ?_
                  try clear hK20 K20
                  refine AWp.mask [false, true] rfl ?_
                  simp only [go_sem]
                  refine AWp.ret ?_
                  try simp only [go_sem, true_and]
                  rw [stE_1 (by rw [← h2]; refine bx_f hlt (.inl (ml_f' hk0 ?_)); rw [← g2]; exact ml_f hlj (by omega))]
                · skip
                  try simp only [decide_eq_true_eq, decide_eq_false_iff_not, Bool.not_eq_false', Bool.and_eq_true, Bool.or_eq_false_iff, Int.not_lt] at hc4
                  refine AWp.skip ?_
                  refine blkQ_n (thenQ_n ?_)
                  refine hK17 _ _ ?_
                  try clear hK17 K17
                  refine AWp.rk fun K21 hK21 => ?_
                  try simp only [go_sem, icast, true_and]
                  (repeat (with_reducible refine And.intro ?_ ?_; omega))
                  refine hK21 _ _ ?_
                  try clear hK21 K21
                  refine thenQ_n ?_
                  refine EndS.mk [true, true, true] [false, false, false, true] [b6] [] [b4, b1] [] rfl ?_ ?_
                  · (try simp only [go_sem]) <;> try rfl
                  refine .e ⟨_, ?_, j + 1, ((s.boxes[k]'hlt).mails[j]'hlj).uid, rfl, ?_, ?_, ?_, ?_, ?_, ?_, ?_⟩
                  · first | omega | (simp; omega) | (grind)
                  · (try simp only [go_sem]) <;> first | exact ⟨rfl⟩ | (constructor; simp; done)
                  · (try simp only [go_sem, fb4, fb6, Bool.false_eq_true]) <;> first | exact ⟨rfl⟩ | (constructor; simp; done)
                  all_goals first | omega | (rw [← ml_t (la := la) hlj (by omega)]; exact g2) | (intro i h e; obtain rfl : i = j := (by omega); rfl)
              · skip
                have hla := g5 (j - 1) (by omega) (by omega)
                refine AWp.ds true [0, 1, 2, 3, 4, 5, 6, 7, 8, 9, 10, 11, 12, 13, 14, 15, 16, 17, 18, 19, 20, 21, 22, 23, 24, 25, 26, 27, 28, 29, 30, 31, 32, 33, 34] rfl (by kernel_rfl) fun K19 hK19 => ?_
                try simp only [go_sem, fb4, fb6]
                (repeat (with_reducible refine And.intro ?_ ?_; omega))
                refine DW.pcr rfl rfl rfl rfl (In_c T _ _ _) rfl rfl ?_
                try simp only [go_sem, mailD, fb4, fb6, gtT hj0, subP hj0, mailsD_get (s.boxes[k]'hlt).mails (j - 1) _ (by omega)]
                (repeat (with_reducible refine And.intro ?_ ?_; (first | (exact nfB) | (intro hg; refine ⟨hg, ?_⟩; omega) | (intro hg; simp at hg ⊢; first | omega | exact hg | grind))))
                refine DW.pcgr rfl rfl rfl rfl rfl (fun hg => In_c T _ _ _) (fun hg => by (try simp only [go_sem]) <;> first | exact hg | (exfalso; simp at hg; done) | (simpa using hg) | grind) rfl rfl ?_
                try simp only [go_sem, fb6]
                (repeat (with_reducible refine And.intro ?_ ?_; (exact nfB)))
                refine hK19 _ _ ?_
                try clear hK19 K19
                refine AWp.mask [true, true, true, true, false, false, false, false, false, false, false, false, false, false, false, false, false, false, false, false, false, false, false, false, false, false, false, false, false, false, false, false, false, false, false, false, false, false, false, true] rfl ?_
                simp only [go_sem]
                refine AWp.cond _ rfl (fun hc4 => ?_) (fun hc4 => ?_)
                · skip
                  try simp only [decide_eq_true_eq, decide_eq_false_iff_not, Bool.not_eq_true', Bool.and_eq_true, Bool.or_eq_true, Bool.and_eq_false_iff, Int.not_le] at hc4
                  try simp only [true_and] at hc4
                  refine AWp.rs fun K22 hK22 => ?_
                  try simp only [go_sem]
                  refine hK22 _ _ ?_
                  try clear hK22 K22
                  refine AWp.mask [false, true] rfl ?_
                  simp only [go_sem]
                  refine AWp.ret ?_
                  try simp only [go_sem]
                  rw [stE_1 (by rw [← h2]; refine bx_f hlt (.inl (ml_f' hk0 ?_)); rw [← g2]; exact ml_f hlj (by omega))]
                · skip
                  try simp only [decide_eq_true_eq, decide_eq_false_iff_not, Bool.not_eq_false', Bool.and_eq_true, Bool.and_eq_false_iff, Bool.or_eq_false_iff, Int.not_lt, Int.not_le] at hc4
                  try simp only [not_true_eq_false, false_or] at hc4
                  refine AWp.skip ?_
                  refine blkQ_n (thenQ_n ?_)
                  refine hK17 _ _ ?_
                  try clear hK17 K17
                  refine AWp.rk fun K23 hK23 => ?_
                  try simp only [go_sem, icast]
                  (repeat (with_reducible refine And.intro ?_ ?_; omega))
                  refine hK23 _ _ ?_
                  try clear hK23 K23
                  refine thenQ_n ?_
                  refine EndS.mk [true, true, true] [false, false, false, true] [b6] [] [b4, b1] [] rfl ?_ ?_
                  · (try simp only [go_sem]) <;> try rfl
                  refine .e ⟨_, ?_, j + 1, ((s.boxes[k]'hlt).mails[j]'hlj).uid, rfl, ?_, ?_, ?_, ?_, ?_, ?_, ?_⟩
                  · first | omega | (simp; omega) | (grind)
                  · (try simp only [go_sem]) <;> first | exact ⟨rfl⟩ | (constructor; simp; done)
                  · (try simp only [go_sem, fb4, fb6]) <;> first | exact ⟨rfl⟩ | (constructor; simp; done)
                  all_goals first | omega | (rw [← ml_t (la := la) hlj (by omega)]; exact g2) | (intro i h e; obtain rfl : i = j := (by omega); rfl)
            · skip
              try simp only [decide_eq_false_iff_not, Int.not_lt] at hc3
              refine AWp.exit ?_
              refine thenQ_e (thenQ_e (blkQ_e (blkQ_n (thenQ_n ?_))))
              refine hK9 _ _ ?_
              try clear hK9 K9
              refine AWp.rk fun K24 hK24 => ?_
              try simp only [go_sem, icast]
              (repeat (with_reducible refine And.intro ?_ ?_; omega))
              refine hK24 _ _ ?_
              try clear hK24 K24
              refine thenQ_n ?_
              refine EndS.mk [true] [false, true] [b4] [] [b1] [] rfl ?_ ?_
              · (try simp only [go_sem]) <;> try rfl
              refine .e ⟨_, ?_, k + 1, rfl, ?_, ?_, ?_, ?_⟩
              · first | omega | (simp; omega) | (grind)
              · (try simp only [go_sem]) <;> first | exact ⟨rfl⟩ | (constructor; simp; done)
              · (try simp only [go_sem, fb4]) <;> first | exact ⟨rfl⟩ | (constructor; simp; done)
              · omega
              · rw [← bx_t hlt (by rw [boxOk_t hk0, ← g2, ml_end (by omega)]) (by omega)]; exact h2
      · skip
        try simp only [decide_eq_false_iff_not, Int.not_lt] at hc1
        have hbx : bxF [] s.boxes = true := by rw [← h2]; exact bx_end (by omega)
        have hsm := stE_small h0 hbx
        refine AWp.exit ?_
        refine thenQ_e (thenQ_e (blkQ_e (thenQ_n ?_)))
        refine hK5 _ _ ?_
        try clear hK5 K5
        refine AWp.seq fun K25 hK25 => ?_
        refine AWp.rs fun K26 hK26 => ?_
        try simp only [go_sem]
        refine hK26 _ _ ?_
        try clear hK26 K26
        refine AWp.block ?_
        refine AWp.mask [true, false, true] rfl ?_
        simp only [go_sem]
        refine AWp.loopS [true] [false, true] (fun n lc hc => ∃ (k : Nat), n = s.spool.length - k ∧ EqS lc [(7, .d (.int .i64 k))] ∧ EqS hc (⟨[(b1, ⟨2, 1, [stateA s]⟩)], []⟩) ∧ (k ≤ s.spool.length) ∧ (spF (s.spool.drop k) = spF s.spool)) rfl ?_ ?_
        · refine ⟨_, 0, rfl, ?_, ?_, ?_, ?_⟩
          · (try simp only [go_sem]) <;> first | exact ⟨rfl⟩ | (constructor; simp; done)
          · (try simp only [go_sem]) <;> first | exact ⟨rfl⟩ | (constructor; simp; done)
          all_goals (first | omega | rfl)
        · rintro _ _ _ ⟨k, rfl, ⟨rfl⟩, ⟨rfl⟩, g1, g2⟩
          simp only [go_sem]
          refine AWp.seq fun K27 hK27 => ?_
          refine AWp.rs fun K28 hK28 => ?_
          try simp only [go_sem]
          refine hK28 _ _ ?_
          try clear hK28 K28
          refine AWp.mask [true, true, false, false, false, false, true] rfl ?_
          simp only [go_sem]
          refine AWp.cond _ rfl (fun hc5 => ?_) (fun hc5 => ?_)
          · skip
            try simp only [decide_eq_true_eq] at hc5
            have hlt : k < s.spool.length := by omega
            refine AWp.skip ?_
            refine thenQ_n ?_
            refine hK27 _ _ ?_
            try clear hK27 K27
            refine AWp.seq fun K29 hK29 => ?_
            refine AWp.block ?_
            refine AWp.rs fun K30 hK30 => ?_
            try simp only [go_sem, entD, entsD_get s.spool k _ hlt]
            (repeat (with_reducible refine And.intro ?_ ?_; (first | omega | (intro hg; refine ⟨hg, ?_⟩; omega))))
            refine DW.pcgr rfl rfl rfl rfl rfl (fun hg => EntryFault_e T hL (ok.sp _ (List.getElem_mem hlt))) (fun hg => by (try simp only [go_sem]) <;> first | exact hg | (exfalso; simp at hg; done) | (simpa using hg) | grind) rfl rfl ?_
            try simp only [go_sem]
            (repeat (with_reducible refine And.intro ?_ ?_; (exact nfB)))
            refine hK30 _ _ ?_
            try clear hK30 K30
            refine AWp.mask [true, true, false, false, false, false, false, false, false, false, false, false, false, false, false, false, false, false, true] rfl ?_
            simp only [go_sem]
            refine AWp.cond _ rfl (fun hc6 => ?_) (fun hc6 => ?_)
            · skip
              try simp only [decide_eq_false_iff_not, Bool.not_eq_true', Bool.or_eq_true] at hc6
              refine AWp.rs fun K31 hK31 => ?_
              try simp only [go_sem]
              refine hK31 _ _ ?_
              try clear hK31 K31
              refine AWp.ret ?_
              try simp only [go_sem]
              rw [stE_2 (by rw [← g2]; exact sp_f hlt (by omega))]
            · skip
              try simp only [decide_eq_true_eq, Bool.not_eq_false', Bool.or_eq_false_iff] at hc6
              refine AWp.skip ?_
              refine blkQ_n (thenQ_n ?_)
              refine hK29 _ _ ?_
              try clear hK29 K29
              refine AWp.rk fun K32 hK32 => ?_
              try simp only [go_sem, icast]
              (repeat (with_reducible refine And.intro ?_ ?_; omega))
              refine hK32 _ _ ?_
              try clear hK32 K32
              refine thenQ_n ?_
              refine EndS.mk [true] [false, true] [] [] [b1] [] rfl ?_ ?_
              · (try simp only [go_sem]) <;> try rfl
              refine .e ⟨_, ?_, k + 1, rfl, ?_, ?_, ?_, ?_⟩
              · first | omega | (simp; omega) | (grind)
              · (try simp only [go_sem]) <;> first | exact ⟨rfl⟩ | (constructor; simp; done)
              · (try simp only [go_sem]) <;> first | exact ⟨rfl⟩ | (constructor; simp; done)
              · omega
              · rw [← sp_t hlt hc6]; exact g2
          · skip
            try simp only [decide_eq_false_iff_not, Int.not_lt] at hc5
            have hsp : spF s.spool = true := by rw [← g2]; exact sp_end (by omega)
            refine AWp.exit ?_
            refine thenQ_e (thenQ_e (blkQ_e (thenQ_n ?_)))
            refine hK25 _ _ ?_
            try clear hK25 K25
            refine AWp.seq fun K33 hK33 => ?_
            refine AWp.rs fun K34 hK34 => ?_
            try simp only [go_sem]
            refine DW.pcr rfl rfl rfl rfl (BytesOf_c T s (stE_B h0 hbx)) rfl rfl ?_
            try simp only [go_sem]
            refine hK34 _ _ ?_
            try clear hK34 K34
            refine AWp.mask [false, false, false, false, false, true] rfl ?_
            simp only [go_sem]
            refine AWp.cond _ rfl (fun hc7 => ?_) (fun hc7 => ?_)
            · skip
              try simp only [decide_eq_true_eq] at hc7
              refine AWp.rs fun K35 hK35 => ?_
              try simp only [go_sem]
              refine hK35 _ _ ?_
              try clear hK35 K35
              refine AWp.ret ?_
              try simp only [go_sem]
              rw [stE_3 (by omega)]
            · skip
              try simp only [decide_eq_false_iff_not, Int.not_lt] at hc7
              refine AWp.skip ?_
              refine thenQ_n ?_
              refine hK33 _ _ ?_
              try clear hK33 K33
              refine AWp.rs fun K36 hK36 => ?_
              try simp only [go_sem]
              refine hK36 _ _ ?_
              try clear hK36 K36
              refine AWp.ret ?_
              try simp only [go_sem]
              rw [stE_t h0 hbx hsp (by omega)]
structure StSm (s : St) : Prop where
  bx : s.boxes.length * 48 ≤ 140737488355328
  ml : ∀ b ∈ s.boxes, b.mails.length * 32 ≤ 140737488355328
  sp : s.spool.length * 72 ≤ 140737488355328
end Go.Proofs.YthhfbolhlbgbgaaDoor

namespace Go.Proofs.YthhfbolhlbgbgaaDoor
open Go.RowKit
set_option linter.unusedSimpArgs false
set_option linter.unusedVariables false
open Go.ChangeShapes Go.WideShapes Go.ChangeAt
set_option maxRecDepth 20000
section
variable {H : Type} {enc : TypeId × Value → H} {W : World}
theorem rl_mem {α : Type} {R : α → DataW H → Prop} {l : List α} {z : DataW H} (h : RL R l z) {x : α} (hx : x ∈ l) : ∃ elems spare y, z = .slice elems spare ∧ y ∈ elems ∧ R x y := by
  cases h with
  | nil => cases hx
  | slice _ elems spare hl h =>
    obtain ⟨i, hi, rfl⟩ := List.getElem_of_mem hx
    have hi' : i < elems.length := by omega
    exact ⟨elems, spare, elems[i], rfl, List.getElem_mem hi', h i _ _ (List.getElem?_eq_getElem hi) (List.getElem?_eq_getElem hi')⟩
end
end Go.Proofs.YthhfbolhlbgbgaaDoor

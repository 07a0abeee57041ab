/- Texts that the laws rest on, packed. -/
import Derived.Test.YthhfbolhlbgbgaaDoorGS
import Derived.Test.YthhfbolhlbgbgaaDoorGC
namespace Go.Proofs.YthhfbolhlbgbgaaDoor
open Go.RowKit
set_option linter.unusedSimpArgs false
set_option linter.unusedVariables false
open Go.RowKit
/-- a box whose mails lie in an object -/
structure BM where
  b : BoxS
  m : Nat
  c : Nat
  ok : c = 0 → b.mails = []
def bmRow (x : BM) : List AV := [.d (.str x.b.name), .d (.int .i64 x.b.next), mA x.m 3 x.c x.b.mails.length]
def bmRows (l : List BM) : List (List AV) := l.map bmRow
def bmB (l : List BM) : List BoxS := l.map BM.b
@[go_sem] theorem bmRows_len (l : List BM) : (bmRows l).length = l.length := by simp [bmRows]
@[go_sem] theorem bmB_len (l : List BM) : (bmB l).length = l.length := by simp [bmB]
theorem bmRows_get {l : List BM} {i : Nat} {x : BM} (h : l[i]? = some x) : (bmRows l)[i]? = some [.d (.str x.b.name), .d (.int .i64 x.b.next), mA x.m 3 x.c x.b.mails.length] := by simp [bmRows, h, bmRow]
def mObjs : List BM → List (Nat × Ob) → List (Nat × Ob)
  | [], F => F
  | x :: l, F => mO x.m 3 x.c (dRows (mailsD x.b.mails)) (mObjs l F)
theorem mO_swap (p : Nat × Ob) (b k c : Nat) (r : List (List AV)) (F : List (Nat × Ob)) : (p :: mO b k c r F).Perm (mO b k c r (p :: F)) := by
  unfold mO; split
  · exact .refl _
  · exact .swap ..
theorem mO_perm {b k c : Nat} {r : List (List AV)} {F F' : List (Nat × Ob)} (h : F.Perm F') : (mO b k c r F).Perm (mO b k c r F') := by
  unfold mO; split
  · exact h
  · exact h.cons _
theorem mO_mO (b k c : Nat) (r : List (List AV)) (b' k' c' : Nat) (r' : List (List AV)) (F : List (Nat × Ob)) : (mO b k c r (mO b' k' c' r' F)).Perm (mO b' k' c' r' (mO b k c r F)) := by
  unfold mO; split <;> split
  · exact .refl _
  · exact .refl _
  · exact .refl _
  · exact .swap ..
theorem mObjs_swap : ∀ (l : List BM) (p : Nat × Ob) (F : List (Nat × Ob)), (p :: mObjs l F).Perm (mObjs l (p :: F))
  | [], _, _ => .refl _
  | x :: l, p, F => (mO_swap p ..).trans (mO_perm (mObjs_swap l p F))
theorem mObjs_mO : ∀ (l : List BM) (b k c : Nat) (r : List (List AV)) (F : List (Nat × Ob)), (mO b k c r (mObjs l F)).Perm (mObjs l (mO b k c r F))
  | [], _, _, _, _, _ => .refl _
  | x :: l, b, k, c, r, F => (mO_mO ..).trans (mO_perm (mObjs_mO l b k c r F))
theorem mObjs_app (l l' : List BM) (F : List (Nat × Ob)) : mObjs (l ++ l') F = mObjs l (mObjs l' F) := by
  induction l with
  | nil => rfl
  | cons x l ih => simp only [List.cons_append, mObjs, ih]
/-- one box's mails to the front -/
theorem mObjs_front : ∀ {l : List BM} {i : Nat} {x : BM} (F : List (Nat × Ob)), l[i]? = some x → (mObjs l F).Perm (mO x.m 3 x.c (dRows (mailsD x.b.mails)) (mObjs (l.eraseIdx i) F))
  | y :: l, 0, x, F, h => by simp at h; subst h; exact .refl _
  | y :: l, i + 1, x, F, h => by
    have h : l[i]? = some x := by simpa using h
    exact (mO_perm (mObjs_front F h)).trans (mO_mO ..)
theorem mObjs_put : ∀ {l : List BM} {i : Nat} (y : BM) (F : List (Nat × Ob)), i < l.length → (mO y.m 3 y.c (dRows (mailsD y.b.mails)) (mObjs (l.eraseIdx i) F)).Perm (mObjs (l.set i y) F)
  | z :: l, 0, y, F, h => .refl _
  | z :: l, i + 1, y, F, h => (mO_mO ..).trans (mO_perm (mObjs_put y F (by simpa using h)))
section
variable {P : Program} {T : Tbl} {Q : AQ} {sl : List AV} {c : Code} {L : List Nat} {H H' : List (Nat × Ob)}
theorem LeH.pm (p : H.Perm H') : LeH ⟨H, L⟩ ⟨H', L⟩ := LeH.perm ⟨p, .refl _⟩
theorem AWp.pm (p : H.Perm H') (K : AWp P T c Q sl ⟨H', L⟩) : AWp P T c Q sl ⟨H, L⟩ := AWp.leH (LeH.pm p) K
theorem AC.leH {f : FuncId} {args : List AV} {h h' : AH} {R : AR → AH → Prop} (p : LeH h h') (C : AC P T f args h' R) : AC P T f args h R := ⟨C.call, fun G w vs S Rs => C.run G w vs (p _ _ _ S) Rs⟩
end
end Go.Proofs.YthhfbolhlbgbgaaDoor

namespace Go.Proofs.YthhfbolhlbgbgaaDoor
set_option linter.unusedSimpArgs false
set_option linter.unusedVariables false
theorem bmB_get {l : List BM} {k : Nat} (h : k < l.length) : (bmB l)[k]'(by simpa [bmB] using h) = (l[k]'h).b := by simp [bmB]
theorem bne_l {x y : Nat} (h : x ≠ y) : (x == y) = false := by simpa using h
theorem bne_r {x y : Nat} (h : x ≠ y) : (y == x) = false := by simpa using fun e => h e.symm
theorem nd2 {x y : Nat} {o o' : Ob} {F : List (Nat × Ob)} (h : (List.map Prod.fst ((x, o) :: (y, o') :: F)).Nodup) : x ≠ y := by
  simp only [List.map_cons, List.nodup_cons, List.mem_cons, not_or] at h
  exact h.1.1
set_option maxRecDepth 4000 in
set_option maxHeartbeats 1000000 in
theorem find1g_c (T : Tbl) (x : BM) (t : Tx) (b : Nat) (F : List (Nat × Ob)) (L : List Nat) : AC Tryd.prog T 124 [.agg [.d (.str (x.b.name)), .d (.int .i64 (x.b.next)), mA x.m 3 x.c x.b.mails.length], .ptr b 1 0 0] (⟨(b, ⟨1, 1, [[.d (.str t)]]⟩) :: F, L⟩) (fun r h => r = .ret (.d (.bool (decide (x.b.name = t)))) ∧ h = ⟨(b, ⟨1, 1, [[.d (.str t)]]⟩) :: F, L⟩) := by
  refine ⟨Tryd.call124, ACalls.enterS Tryd.func124 rfl Tryd.ntmps124 rfl fun hb => ?_⟩
  simp only [go_sem, Tryd.results124]
  rcases Nat.eq_zero_or_pos x.c with hz | hz
  · skip
    refine AWp.rs fun K1 hK1 => ?_
    try simp only [go_sem, hz, mA_nil]
    intro b2
    first | intro fb2 | have fb2 := True.intro
    try simp only [freshL] at fb2
    refine hK1 _ _ ?_
    try clear hK1 K1
    refine AWp.rs fun K2 hK2 => ?_
    try simp only [go_sem, fb2]
    refine hK2 _ _ ?_
    try clear hK2 K2
    refine AWp.mask [false, false, false, true] rfl ?_
    simp only [go_sem]
    refine AWp.ret ?_
    apply endW_r [b2] [] [] [] (by (try simp only [go_sem]); rfl)
    · exact ⟨rfl, by simp [go_sem]⟩
    · simp [LeA, LeD]
  · skip
    refine AWp.rs fun K1 hK1 => ?_
    try simp only [go_sem, mA_pos hz]
    intro b2
    first | intro fb2 | have fb2 := True.intro
    try simp only [freshL] at fb2
    refine hK1 _ _ ?_
    try clear hK1 K1
    refine AWp.rs fun K3 hK3 => ?_
    try simp only [go_sem, fb2]
    refine hK3 _ _ ?_
    try clear hK3 K3
    refine AWp.mask [false, false, false, true] rfl ?_
    simp only [go_sem]
    refine AWp.ret ?_
    apply endW_r [b2] [] [] [] (by (try simp only [go_sem]); rfl)
    · exact ⟨rfl, by simp [go_sem]⟩
    · simp [LeA, LeD]
set_option maxRecDepth 4000 in
set_option maxHeartbeats 1000000 in
theorem IndexBoxM_c (T : Tbl) (l : List BM) (t : Tx) (b bb cb : Nat) (F : List (Nat × Ob)) (L : List Nat) (hl : l.length ≤ 1000) : AC Tryd.prog T 123 [.arr bb 3 l.length cb, .fn 124 [.ptr b 1 0 0]] (⟨(b, ⟨1, 1, [[.d (.str t)]]⟩) :: (bb, ⟨3, cb, bmRows l⟩) :: F, L⟩) (fun r h => r = .ret (.d (.int .i64 (findI (bmB l) t))) ∧ h = ⟨(b, ⟨1, 1, [[.d (.str t)]]⟩) :: (bb, ⟨3, cb, bmRows l⟩) :: F, L⟩) := by
  refine ⟨Tryd.call123, ACalls.enterS Tryd.func123 rfl Tryd.ntmps123 rfl fun hb => ?_⟩
  refine AWp.nd fun hnd => ?_
  have hne := nd2 hnd
  clear hnd
  simp only [go_sem, Tryd.results123]
  refine AWp.rs fun K1 hK1 => ?_
  try simp only [go_sem]
  refine hK1 _ _ ?_
  try clear hK1 K1
  refine AWp.seq fun K2 hK2 => ?_
  refine AWp.rs fun K3 hK3 => ?_
  try simp only [go_sem]
  refine hK3 _ _ ?_
  try clear hK3 K3
  refine AWp.block ?_
  refine AWp.mask [true, true, false, false, true, true] rfl ?_
  simp only [go_sem]
  refine AWp.loopS [true, true, true] [false, false, false, true] (fun n lc hc => ∃ (k : Nat), n = l.length - k ∧ EqS lc [(8, .d (.int .i64 k))] ∧ EqS hc (⟨(b, ⟨1, 1, [[.d (.str t)]]⟩) :: (bb, ⟨3, cb, bmRows l⟩) :: F, L⟩) ∧ (k ≤ l.length) ∧ (findR (bmB l) t k)) rfl ?_ ?_
  · refine ⟨_, 0, rfl, ?_, ?_, ?_, ?_⟩
    · (try simp only [go_sem]) <;> first | exact ⟨rfl⟩ | (constructor; simp; done)
    · (try simp only [go_sem, icast, bmRows_len, bne_l hne, bne_r hne]) <;> first | exact ⟨rfl⟩ | (constructor; simp; done)
    all_goals (first | omega | exact findR_0 _ _)
  · rintro _ _ _ ⟨k, rfl, ⟨rfl⟩, ⟨rfl⟩, h1, h2⟩
    simp only [go_sem]
    refine AWp.rs fun K4 hK4 => ?_
    try simp only [go_sem]
    refine hK4 _ _ ?_
    try clear hK4 K4
    refine AWp.seq fun K5 hK5 => ?_
    refine AWp.cond _ rfl (fun hc0 => ?_) (fun hc0 => ?_)
    · skip
      try simp only [decide_eq_true_eq] at hc0
      have hlt : k < l.length := by omega
      refine AWp.skip ?_
      refine thenQ_n ?_
      refine hK5 _ _ ?_
      try clear hK5 K5
      refine AWp.seq fun K6 hK6 => ?_
      refine AWp.block ?_
      refine AWp.rs fun K7 hK7 => ?_
      try simp only [go_sem]
      refine hK7 _ _ ?_
      try clear hK7 K7
      refine AWp.rs fun K8 hK8 => ?_
      try simp only [go_sem, bne_l hne, bmRows_get (List.getElem?_eq_getElem hlt)]
      (repeat (with_reducible refine And.intro ?_ ?_; omega))
      refine DW.acp [b] [] rfl rfl rfl rfl (by (try simp only [go_sem, bne_r hne]); rfl) rfl (find1g_c T (l[k]'hlt) t b _ _) ?_
      rintro _ _ ⟨rfl, rfl⟩
      try simp only [go_sem]
      refine hK8 _ _ ?_
      try clear hK8 K8
      refine AWp.mask [true, true, true, true, true, false, false, false, false, false, false, false, true] rfl ?_
      simp only [go_sem]
      refine AWp.cond _ rfl (fun hc1 => ?_) (fun hc1 => ?_)
      · skip
        try simp only [decide_eq_true_eq] at hc1
        refine AWp.rs fun K9 hK9 => ?_
        try simp only [go_sem]
        refine hK9 _ _ ?_
        try clear hK9 K9
        refine AWp.mask [false, false, true] rfl ?_
        simp only [go_sem]
        refine AWp.ret ?_
        try simp only [thenQ, blkQ]
        apply endW_r [] [] [] [] (by (try simp only [go_sem]); rfl)
        · exact ⟨rfl, rfl⟩
        · rw [findR_t (by simpa [bmB] using hlt) h2 (by rw [bmB_get hlt]; exact hc1)]; simp [LeA, LeD]
      · skip
        try simp only [decide_eq_false_iff_not] at hc1
        refine AWp.skip ?_
        refine blkQ_n (thenQ_n ?_)
        refine hK6 _ _ ?_
        try clear hK6 K6
        refine AWp.rk fun K10 hK10 => ?_
        try simp only [go_sem, icast]
        (repeat (with_reducible refine And.intro ?_ ?_; omega))
        refine hK10 _ _ ?_
        try clear hK10 K10
        refine thenQ_n ?_
        refine EndS.mk [true, true, false, true] [false, false, false, false, true] [] [] [b, bb] [] rfl ?_ ?_
        · (try simp only [go_sem]) <;> try rfl
        refine .e ⟨_, ?_, k + 1, rfl, ?_, ?_, ?_, ?_⟩
        · first | omega | (simp; omega) | (grind)
        · (try simp only [go_sem]) <;> first | exact ⟨rfl⟩ | (constructor; simp; done)
        · (try simp only [go_sem, bne_l hne, bne_r hne]) <;> first | exact ⟨rfl⟩ | (constructor; simp; done)
        · omega
        · exact findR_f (by simpa [bmB] using hlt) h2 (by rw [bmB_get hlt]; exact hc1)
    · skip
      try simp only [decide_eq_false_iff_not, Int.not_lt] at hc0
      refine AWp.exit ?_
      refine thenQ_e (thenQ_e (blkQ_e (thenQ_n ?_)))
      refine hK2 _ _ ?_
      try clear hK2 K2
      refine AWp.mask [] rfl ?_
      simp only [go_sem]
      refine AWp.rs fun K11 hK11 => ?_
      try simp only [go_sem]
      refine hK11 _ _ ?_
      try clear hK11 K11
      refine AWp.ret ?_
      apply endW_r [] [] [] [] (by (try simp only [go_sem]); rfl)
      · exact ⟨rfl, rfl⟩
      · rw [findR_end (by simp [bmB]; omega) h2]; simp [LeA, LeD]
set_option maxRecDepth 4000 in
set_option maxHeartbeats 1000000 in
theorem IndexBox0_c (T : Tbl) (f : FuncId) (cap : List AV) (F : List (Nat × Ob)) (L : List Nat) : AC Tryd.prog T 123 [.full 3 [], .fn f cap] (⟨F, L⟩) (fun r h => r = .ret (.d (.int .i64 (-1))) ∧ h = ⟨F, L⟩) := by
  refine ⟨Tryd.call123, ACalls.enterS Tryd.func123 rfl Tryd.ntmps123 rfl fun hb => ?_⟩
  simp only [go_sem, Tryd.results123]
  refine AWp.rs fun K1 hK1 => ?_
  try simp only [go_sem]
  refine hK1 _ _ ?_
  try clear hK1 K1
  refine AWp.seq fun K2 hK2 => ?_
  refine AWp.rs fun K3 hK3 => ?_
  try simp only [go_sem]
  refine hK3 _ _ ?_
  try clear hK3 K3
  refine AWp.block ?_
  refine AWp.mask [true, true, false, false, true, true] rfl ?_
  simp only [go_sem]
  refine AWp.loopS [true, true, true] [false, false, false, true] (fun n lc hc => ∃ (k : Nat), n = k ∧ EqS lc [(8, .d (.int .i64 0))] ∧ EqS hc (⟨F, L⟩)) rfl ?_ ?_
  · refine ⟨_, 0, rfl, ?_, ?_⟩
    · (try simp only [go_sem]) <;> first | exact ⟨rfl⟩ | (constructor; simp; done)
    · (try simp only [go_sem, icast]) <;> first | exact ⟨rfl⟩ | (constructor; simp; done)
  · rintro _ _ _ ⟨k, rfl, ⟨rfl⟩, ⟨rfl⟩⟩
    simp only [go_sem]
    refine AWp.rs fun K4 hK4 => ?_
    try simp only [go_sem]
    refine hK4 _ _ ?_
    try clear hK4 K4
    refine AWp.seq fun K5 hK5 => ?_
    refine AWp.cond _ rfl (fun hc0 => ?_) (fun hc0 => ?_)
    · skip
      exfalso
      simp at hc0
    · skip
      try simp only [decide_eq_false_iff_not, Int.not_lt] at hc0
      refine AWp.exit ?_
      refine thenQ_e (thenQ_e (blkQ_e (thenQ_n ?_)))
      refine hK2 _ _ ?_
      try clear hK2 K2
      refine AWp.mask [] rfl ?_
      simp only [go_sem]
      refine AWp.rs fun K6 hK6 => ?_
      try simp only [go_sem]
      refine hK6 _ _ ?_
      try clear hK6 K6
      refine AWp.ret ?_
      apply endW_r [] [] [] [] (by (try simp only [go_sem]); rfl)
      · exact ⟨rfl, rfl⟩
      · simp [LeA, LeD]
set_option maxRecDepth 4000 in
set_option maxHeartbeats 1000000 in
theorem findM_c (T : Tbl) (l : List BM) (t : Tx) (bb cb : Nat) (F : List (Nat × Ob)) (L : List Nat) (hl : l.length ≤ 1000) : AC Tryd.prog T 92 [.arr bb 3 l.length cb, .d (.str t)] (⟨(bb, ⟨3, cb, bmRows l⟩) :: F, L⟩) (fun r h => r = .ret (.d (.int .i64 (findI (bmB l) t))) ∧ h = ⟨(bb, ⟨3, cb, bmRows l⟩) :: F, L⟩) := by
  refine ⟨Tryd.call92, ACalls.enterS Tryd.func92 rfl Tryd.ntmps92 rfl fun hb => ?_⟩
  simp only [go_sem, Tryd.results92]
  refine AWp.rs fun K1 hK1 => ?_
  try simp only [go_sem, if_true]
  intro b3
  first | intro fb3 | have fb3 := True.intro
  try simp only [freshL] at fb3
  refine hK1 _ _ ?_
  try clear hK1 K1
  refine AWp.rs fun K2 hK2 => ?_
  try simp only [go_sem, Array.isEmpty_empty, if_true]
  refine DW.acp [b3, bb] [] rfl rfl rfl rfl (by (try simp only [go_sem, if_true, fb3]); rfl) rfl (IndexBoxM_c T l t b3 bb cb _ _ hl) ?_
  rintro _ _ ⟨rfl, rfl⟩
  try simp only [go_sem, if_true]
  refine hK2 _ _ ?_
  try clear hK2 K2
  refine AWp.mask [false, false, false, true] rfl ?_
  simp only [go_sem]
  refine AWp.ret ?_
  apply endW_r [b3] [] [] [] (by (try simp only [go_sem, if_true]); rfl)
  · exact ⟨rfl, by simp [go_sem]⟩
  · simp [LeA, LeD]
set_option maxRecDepth 4000 in
set_option maxHeartbeats 1000000 in
theorem find0_c (T : Tbl) (t : Tx) (F : List (Nat × Ob)) (L : List Nat) : AC Tryd.prog T 92 [.full 3 [], .d (.str t)] (⟨F, L⟩) (fun r h => r = .ret (.d (.int .i64 (-1))) ∧ h = ⟨F, L⟩) := by
  refine ⟨Tryd.call92, ACalls.enterS Tryd.func92 rfl Tryd.ntmps92 rfl fun hb => ?_⟩
  simp only [go_sem, Tryd.results92]
  refine AWp.rs fun K1 hK1 => ?_
  try simp only [go_sem, if_true]
  intro b3
  first | intro fb3 | have fb3 := True.intro
  try simp only [freshL] at fb3
  refine hK1 _ _ ?_
  try clear hK1 K1
  refine AWp.rs fun K2 hK2 => ?_
  try simp only [go_sem, Array.isEmpty_empty, if_true]
  refine DW.acp [b3] [] rfl rfl rfl rfl (by (try simp only [go_sem, if_true]); rfl) rfl (IndexBox0_c T _ _ _ _) ?_
  rintro _ _ ⟨rfl, rfl⟩
  try simp only [go_sem, if_true]
  refine hK2 _ _ ?_
  try clear hK2 K2
  refine AWp.mask [false, false, false, true] rfl ?_
  simp only [go_sem]
  refine AWp.ret ?_
  apply endW_r [b3] [] [] [] (by (try simp only [go_sem, if_true]); rfl)
  · exact ⟨rfl, by simp [go_sem]⟩
  · simp [LeA, LeD]
end Go.Proofs.YthhfbolhlbgbgaaDoor

namespace Go.Proofs.YthhfbolhlbgbgaaDoor
set_option linter.unusedSimpArgs false
set_option linter.unusedVariables false
/-- the place of the first one that fits -/
def idxI {α : Type} (p : α → Bool) : List α → Int
  | [] => -1
  | x :: l => if p x = true then 0 else if idxI p l < 0 then -1 else idxI p l + 1
section
variable {α : Type} {p : α → Bool} {l : List α} {k : Nat}
theorem idxI_ge : ∀ l : List α, -1 ≤ idxI p l
  | [] => by simp [idxI]
  | x :: l => by
    have := idxI_ge l
    rw [idxI]; split
    · omega
    · split <;> omega
def idxR (p : α → Bool) (l : List α) (k : Nat) : Prop := idxI p l = if idxI p (l.drop k) < 0 then -1 else idxI p (l.drop k) + k
theorem idxR_0 : idxR p l 0 := by
  have := idxI_ge (p := p) l
  unfold idxR; rw [List.drop_zero]; split <;> omega
theorem idxR_t (h : k < l.length) (hR : idxR p l k) (he : p (l[k]'h) = true) : idxI p l = k := by
  have e : idxI p (l.drop k) = 0 := by rw [List.drop_eq_getElem_cons h, idxI, if_pos he]
  unfold idxR at hR
  rw [hR, e]; simp
theorem idxR_f (h : k < l.length) (hR : idxR p l k) (he : p (l[k]'h) = false) : idxR p l (k + 1) := by
  have e : idxI p (l.drop k) = if idxI p (l.drop (k + 1)) < 0 then -1 else idxI p (l.drop (k + 1)) + 1 := by rw [List.drop_eq_getElem_cons h, idxI, if_neg (by simp [he])]
  have hg := idxI_ge (p := p) (l.drop (k + 1))
  unfold idxR at hR ⊢
  rw [hR, e]
  by_cases h1 : idxI p (l.drop (k + 1)) < 0
  · simp [h1]
  · rw [if_neg h1, if_neg h1, if_neg (by omega)]; omega
theorem idxR_end (h : l.length ≤ k) (hR : idxR p l k) : idxI p l = -1 := by
  unfold idxR at hR
  rw [hR, List.drop_eq_nil_of_le h]; rfl
end
theorem mrow_g {l : List Mail} {i : Nat} {x : Mail} (h : l[i]? = some x) : (dRows (mailsD l))[i]? = some [.d (.int .i64 x.uid), .d (.int .i64 x.flags), .d (.str x.text)] := by simp [dRows, mailsD, h, mailD]
theorem mails_full (l : List Mail) : ∀ r ∈ dRows (mailsD l), r.length = 3 := fun r hr => by
  simp only [dRows, mailsD, List.mem_map] at hr
  obtain ⟨_, ⟨f, _, rfl⟩, rfl⟩ := hr
  rfl
theorem mailsD_full (l : List Mail) : ∀ r ∈ mailsD l, r.length = 3 := fun r hr => by
  simp only [mailsD, List.mem_map] at hr
  obtain ⟨f, _, rfl⟩ := hr
  rfl
theorem and8 : ∀ n : Fin 32, (!decide (IntKind.i64.wrap ↑(BitVec.ofInt 64 ((n.val : Nat) : Int) &&& BitVec.ofInt 64 8).toNat = 0)) = decide (¬ (((n.val : Nat) : Int) / 8) % 2 = 0) := by decide +kernel
/-- marked as deleted -/
def delB (m : Mail) : Bool := decide (¬ (m.flags / 8) % 2 = 0)
def FlOk (l : List Mail) : Prop := ∀ m ∈ l, 0 ≤ m.flags ∧ m.flags ≤ 31
set_option maxRecDepth 4000 in
set_option maxHeartbeats 1000000 in
theorem uid_c (T : Tbl) (x : Mail) (e : Ent) (b : Nat) (F : List (Nat × Ob)) (L : List Nat) : AC Tryd.prog T 104 [.agg [.d (.int .i64 (x.uid)), .d (.int .i64 (x.flags)), .d (.str (x.text))], .ptr b 6 0 0] (⟨(b, ⟨6, 1, [entA e]⟩) :: F, L⟩) (fun r h => r = .ret (.d (.bool (decide (x.uid = e.uid)))) ∧ h = ⟨(b, ⟨6, 1, [entA e]⟩) :: F, L⟩) := by
  refine ⟨Tryd.call104, ACalls.enterS Tryd.func104 rfl Tryd.ntmps104 rfl fun hb => ?_⟩
  simp only [go_sem, Tryd.results104]
  refine AWp.rs fun K1 hK1 => ?_
  try simp only [go_sem]
  intro b2
  first | intro fb2 | have fb2 := True.intro
  try simp only [freshL] at fb2
  refine hK1 _ _ ?_
  try clear hK1 K1
  refine AWp.rs fun K2 hK2 => ?_
  try simp only [go_sem, fb2]
  refine hK2 _ _ ?_
  try clear hK2 K2
  refine AWp.mask [false, false, false, true] rfl ?_
  simp only [go_sem]
  refine AWp.ret ?_
  apply endW_r [b2] [] [] [] (by (try simp only [go_sem]); rfl)
  · exact ⟨rfl, by simp [go_sem]⟩
  · simp [LeA, LeD]
set_option maxRecDepth 4000 in
set_option maxHeartbeats 1000000 in
theorem del_c (T : Tbl) (x : Mail) (h0 : 0 ≤ x.flags) (h1 : x.flags ≤ 31) : PC Tryd.prog T 102 [.agg [.d (.int .i64 (x.uid)), .d (.int .i64 (x.flags)), .d (.str (x.text))]] (.d (.bool (delB x))) := by
  refine ⟨Tryd.call102, PCall.enterS Tryd.func102 rfl Tryd.ntmps102 rfl fun hb => ?_⟩
  simp only [go_sem, Tryd.results102]
  refine AWp.rs fun K1 hK1 => ?_
  try simp only [go_sem]
  intro b1
  first | intro fb1 | have fb1 := True.intro
  try simp only [freshL] at fb1
  refine hK1 _ _ ?_
  try clear hK1 K1
  refine AWp.rs fun K2 hK2 => ?_
  try simp only [go_sem]
  refine hK2 _ _ ?_
  try clear hK2 K2
  refine AWp.mask [false, false, true] rfl ?_
  simp only [go_sem]
  refine AWp.ret ?_
  try simp only [go_sem]
  simp only [delB]
  obtain ⟨n, hn⟩ := Int.eq_ofNat_of_zero_le h0
  rw [hn]
  exact and8 ⟨n, by omega⟩
set_option maxRecDepth 4000 in
set_option maxHeartbeats 1000000 in
theorem IndexUid_c (T : Tbl) (e : Ent) (b : Nat) (ms : List Mail) (m c : Nat) (F : List (Nat × Ob)) (L : List Nat) (hl : ms.length ≤ 1000) : AC Tryd.prog T 103 [.arr m 3 ms.length c, .fn 104 [.ptr b 6 0 0]] (⟨(b, ⟨6, 1, [entA e]⟩) :: (m, ⟨3, c, dRows (mailsD ms)⟩) :: F, L⟩) (fun r h => r = .ret (.d (.int .i64 (idxI (fun x : Mail => decide (x.uid = e.uid)) ms))) ∧ h = ⟨(b, ⟨6, 1, [entA e]⟩) :: (m, ⟨3, c, dRows (mailsD ms)⟩) :: F, L⟩) := by
  refine ⟨Tryd.call103, ACalls.enterS Tryd.func103 rfl Tryd.ntmps103 rfl fun hb => ?_⟩
  refine AWp.nd fun hnd => ?_
  have hne := nd2 hnd
  clear hnd
  simp only [go_sem, Tryd.results103]
  refine AWp.rs fun K1 hK1 => ?_
  try simp only [go_sem]
  refine hK1 _ _ ?_
  try clear hK1 K1
  refine AWp.seq fun K2 hK2 => ?_
  refine AWp.rs fun K3 hK3 => ?_
  try simp only [go_sem]
  refine hK3 _ _ ?_
  try clear hK3 K3
  refine AWp.block ?_
  refine AWp.mask [true, true, false, false, true, true] rfl ?_
  simp only [go_sem]
  refine AWp.loopS [true, true, true] [false, false, false, true] (fun n lc hc => ∃ (k : Nat), n = ms.length - k ∧ EqS lc [(8, .d (.int .i64 k))] ∧ EqS hc (⟨(b, ⟨6, 1, [entA e]⟩) :: (m, ⟨3, c, dRows (mailsD ms)⟩) :: F, L⟩) ∧ (k ≤ ms.length) ∧ (idxR (fun x : Mail => decide (x.uid = e.uid)) ms k)) rfl ?_ ?_
  · refine ⟨_, 0, rfl, ?_, ?_, ?_, ?_⟩
    · (try simp only [go_sem]) <;> first | exact ⟨rfl⟩ | (constructor; simp; done)
    · (try simp only [go_sem]) <;> first | exact ⟨rfl⟩ | (constructor; simp; done)
    all_goals (first | omega | exact idxR_0)
  · rintro _ _ _ ⟨k, rfl, ⟨rfl⟩, ⟨rfl⟩, h1, h2⟩
    simp only [go_sem]
    refine AWp.rs fun K4 hK4 => ?_
    try simp only [go_sem]
    refine hK4 _ _ ?_
    try clear hK4 K4
    refine AWp.seq fun K5 hK5 => ?_
    refine AWp.cond _ rfl (fun hc0 => ?_) (fun hc0 => ?_)
    · skip
      try simp only [decide_eq_true_eq] at hc0
      have hlt : k < ms.length := by omega
      refine AWp.skip ?_
      refine thenQ_n ?_
      refine hK5 _ _ ?_
      try clear hK5 K5
      refine AWp.seq fun K6 hK6 => ?_
      refine AWp.block ?_
      refine AWp.rs fun K7 hK7 => ?_
      try simp only [go_sem]
      refine hK7 _ _ ?_
      try clear hK7 K7
      refine AWp.rs fun K8 hK8 => ?_
      try simp only [go_sem, bne_l hne, mrow_g (List.getElem?_eq_getElem hlt)]
      (repeat (with_reducible refine And.intro ?_ ?_; omega))
      refine DW.acp [b] [] rfl rfl rfl rfl (by (try simp only [go_sem, bne_r hne]); rfl) rfl (uid_c T (ms[k]'hlt) e b _ _) ?_
      rintro _ _ ⟨rfl, rfl⟩
      try simp only [go_sem]
      refine hK8 _ _ ?_
      try clear hK8 K8
      refine AWp.mask [true, true, true, true, true, false, false, false, false, false, false, false, true] rfl ?_
      simp only [go_sem]
      refine AWp.cond _ rfl (fun hc1 => ?_) (fun hc1 => ?_)
      · skip
        try simp only [decide_eq_true_eq] at hc1
        refine AWp.rs fun K9 hK9 => ?_
        try simp only [go_sem]
        refine hK9 _ _ ?_
        try clear hK9 K9
        refine AWp.mask [false, false, true] rfl ?_
        simp only [go_sem]
        refine AWp.ret ?_
        try simp only [thenQ, blkQ]
        apply endW_r [] [] [] [] (by (try simp only [go_sem]); rfl)
        · exact ⟨rfl, rfl⟩
        · rw [idxR_t hlt h2 (by simpa using hc1)]; simp [LeA, LeD]
      · skip
        try simp only [decide_eq_false_iff_not] at hc1
        refine AWp.skip ?_
        refine blkQ_n (thenQ_n ?_)
        refine hK6 _ _ ?_
        try clear hK6 K6
        refine AWp.rk fun K10 hK10 => ?_
        try simp only [go_sem, icast]
        (repeat (with_reducible refine And.intro ?_ ?_; omega))
        refine hK10 _ _ ?_
        try clear hK10 K10
        refine thenQ_n ?_
        refine EndS.mk [true, true, false, true] [false, false, false, false, true] [] [] [b, m] [] rfl ?_ ?_
        · (try simp only [go_sem]) <;> try rfl
        refine .e ⟨_, ?_, k + 1, rfl, ?_, ?_, ?_, ?_⟩
        · first | omega | (simp; omega) | (grind)
        · (try simp only [go_sem]) <;> first | exact ⟨rfl⟩ | (constructor; simp; done)
        · (try simp only [go_sem, bne_l hne, bne_r hne]) <;> first | exact ⟨rfl⟩ | (constructor; simp; done)
        · omega
        · exact idxR_f hlt h2 (by simpa using hc1)
    · skip
      try simp only [decide_eq_false_iff_not, Int.not_lt] at hc0
      refine AWp.exit ?_
      refine thenQ_e (thenQ_e (blkQ_e (thenQ_n ?_)))
      refine hK2 _ _ ?_
      try clear hK2 K2
      refine AWp.mask [] rfl ?_
      simp only [go_sem]
      refine AWp.rs fun K11 hK11 => ?_
      try simp only [go_sem]
      refine hK11 _ _ ?_
      try clear hK11 K11
      refine AWp.ret ?_
      apply endW_r [] [] [] [] (by (try simp only [go_sem]); rfl)
      · exact ⟨rfl, rfl⟩
      · rw [idxR_end (by omega) h2]; simp [LeA, LeD]
set_option maxRecDepth 4000 in
set_option maxHeartbeats 1000000 in
theorem IndexDel_c (T : Tbl) (ms : List Mail) (hfl : FlOk ms) (m c : Nat) (F : List (Nat × Ob)) (L : List Nat) (hl : ms.length ≤ 1000) : AC Tryd.prog T 103 [.arr m 3 ms.length c, .fn 102 []] (⟨(m, ⟨3, c, dRows (mailsD ms)⟩) :: F, L⟩) (fun r h => r = .ret (.d (.int .i64 (idxI (delB) ms))) ∧ h = ⟨(m, ⟨3, c, dRows (mailsD ms)⟩) :: F, L⟩) := by
  refine ⟨Tryd.call103, ACalls.enterS Tryd.func103 rfl Tryd.ntmps103 rfl fun hb => ?_⟩
  simp only [go_sem, Tryd.results103]
  refine AWp.rs fun K1 hK1 => ?_
  try simp only [go_sem]
  refine hK1 _ _ ?_
  try clear hK1 K1
  refine AWp.seq fun K2 hK2 => ?_
  refine AWp.rs fun K3 hK3 => ?_
  try simp only [go_sem]
  refine hK3 _ _ ?_
  try clear hK3 K3
  refine AWp.block ?_
  refine AWp.mask [true, true, false, false, true, true] rfl ?_
  simp only [go_sem]
  refine AWp.loopS [true, true, true] [false, false, false, true] (fun n lc hc => ∃ (k : Nat), n = ms.length - k ∧ EqS lc [(8, .d (.int .i64 k))] ∧ EqS hc (⟨(m, ⟨3, c, dRows (mailsD ms)⟩) :: F, L⟩) ∧ (k ≤ ms.length) ∧ (idxR (delB) ms k)) rfl ?_ ?_
  · refine ⟨_, 0, rfl, ?_, ?_, ?_, ?_⟩
    · (try simp only [go_sem]) <;> first | exact ⟨rfl⟩ | (constructor; simp; done)
    · (try simp only [go_sem, icast, mailsD_len, dRows_len]) <;> first | exact ⟨rfl⟩ | (constructor; simp; done)
    all_goals (first | omega | exact idxR_0)
  · rintro _ _ _ ⟨k, rfl, ⟨rfl⟩, ⟨rfl⟩, h1, h2⟩
    simp only [go_sem]
    refine AWp.rs fun K4 hK4 => ?_
    try simp only [go_sem]
    refine hK4 _ _ ?_
    try clear hK4 K4
    refine AWp.seq fun K5 hK5 => ?_
    refine AWp.cond _ rfl (fun hc0 => ?_) (fun hc0 => ?_)
    · skip
      try simp only [decide_eq_true_eq] at hc0
      have hlt : k < ms.length := by omega
      refine AWp.skip ?_
      refine thenQ_n ?_
      refine hK5 _ _ ?_
      try clear hK5 K5
      refine AWp.seq fun K6 hK6 => ?_
      refine AWp.block ?_
      refine AWp.rs fun K7 hK7 => ?_
      try simp only [go_sem]
      refine hK7 _ _ ?_
      try clear hK7 K7
      refine AWp.rs fun K8 hK8 => ?_
      try simp only [go_sem, mrow_g (List.getElem?_eq_getElem hlt)]
      (repeat (with_reducible refine And.intro ?_ ?_; omega))
      refine DW.pcr rfl rfl rfl rfl (del_c T (ms[k]'hlt) (hfl _ (List.getElem_mem hlt)).1 (hfl _ (List.getElem_mem hlt)).2) rfl rfl ?_
      try simp only [go_sem]
      refine hK8 _ _ ?_
      try clear hK8 K8
      refine AWp.mask [true, true, true, true, true, false, false, false, false, false, false, false, true] rfl ?_
      simp only [go_sem]
      refine AWp.cond _ rfl (fun hc1 => ?_) (fun hc1 => ?_)
      · skip
        refine AWp.rs fun K9 hK9 => ?_
        try simp only [go_sem]
        refine hK9 _ _ ?_
        try clear hK9 K9
        refine AWp.mask [false, false, true] rfl ?_
        simp only [go_sem]
        refine AWp.ret ?_
        try simp only [thenQ, blkQ]
        apply endW_r [] [] [] [] (by (try simp only [go_sem]); rfl)
        · exact ⟨rfl, rfl⟩
        · rw [idxR_t hlt h2 (by simpa using hc1)]; simp [LeA, LeD]
      · skip
        refine AWp.skip ?_
        refine blkQ_n (thenQ_n ?_)
        refine hK6 _ _ ?_
        try clear hK6 K6
        refine AWp.rk fun K10 hK10 => ?_
        try simp only [go_sem, icast]
        (repeat (with_reducible refine And.intro ?_ ?_; omega))
        refine hK10 _ _ ?_
        try clear hK10 K10
        refine thenQ_n ?_
        refine EndS.mk [true, true, false, true] [false, false, false, false, true] [] [] [m] [] rfl ?_ ?_
        · (try simp only [go_sem]) <;> try rfl
        refine .e ⟨_, ?_, k + 1, rfl, ?_, ?_, ?_, ?_⟩
        · first | omega | (simp; omega) | (grind)
        · (try simp only [go_sem]) <;> first | exact ⟨rfl⟩ | (constructor; simp; done)
        · (try simp only [go_sem]) <;> first | exact ⟨rfl⟩ | (constructor; simp; done)
        · omega
        · exact idxR_f hlt h2 (by simpa using hc1)
    · skip
      try simp only [decide_eq_false_iff_not, Int.not_lt] at hc0
      refine AWp.exit ?_
      refine thenQ_e (thenQ_e (blkQ_e (thenQ_n ?_)))
      refine hK2 _ _ ?_
      try clear hK2 K2
      refine AWp.mask [] rfl ?_
      simp only [go_sem]
      refine AWp.rs fun K11 hK11 => ?_
      try simp only [go_sem]
      refine hK11 _ _ ?_
      try clear hK11 K11
      refine AWp.ret ?_
      apply endW_r [] [] [] [] (by (try simp only [go_sem]); rfl)
      · exact ⟨rfl, rfl⟩
      · rw [idxR_end (by omega) h2]; simp [LeA, LeD]
set_option maxRecDepth 4000 in
set_option maxHeartbeats 1000000 in
theorem IndexMail0_c (T : Tbl) (f : FuncId) (cap : List AV) (F : List (Nat × Ob)) (L : List Nat) : AC Tryd.prog T 103 [.full 3 [], .fn f cap] (⟨F, L⟩) (fun r h => r = .ret (.d (.int .i64 (-1))) ∧ h = ⟨F, L⟩) := by
  refine ⟨Tryd.call103, ACalls.enterS Tryd.func103 rfl Tryd.ntmps103 rfl fun hb => ?_⟩
  simp only [go_sem, Tryd.results103]
  refine AWp.rs fun K1 hK1 => ?_
  try simp only [go_sem]
  refine hK1 _ _ ?_
  try clear hK1 K1
  refine AWp.seq fun K2 hK2 => ?_
  refine AWp.rs fun K3 hK3 => ?_
  try simp only [go_sem]
  refine hK3 _ _ ?_
  try clear hK3 K3
  refine AWp.block ?_
  refine AWp.mask [true, true, false, false, true, true] rfl ?_
  simp only [go_sem]
  refine AWp.loopS [true, true, true] [false, false, false, true] (fun n lc hc => ∃ (k : Nat), n = k ∧ EqS lc [(8, .d (.int .i64 0))] ∧ EqS hc (⟨F, L⟩)) rfl ?_ ?_
  · refine ⟨_, 0, rfl, ?_, ?_⟩
    · (try simp only [go_sem]) <;> first | exact ⟨rfl⟩ | (constructor; simp; done)
    · (try simp only [go_sem, icast]) <;> first | exact ⟨rfl⟩ | (constructor; simp; done)
  · rintro _ _ _ ⟨k, rfl, ⟨rfl⟩, ⟨rfl⟩⟩
    simp only [go_sem]
    refine AWp.rs fun K4 hK4 => ?_
    try simp only [go_sem]
    refine hK4 _ _ ?_
    try clear hK4 K4
    refine AWp.seq fun K5 hK5 => ?_
    refine AWp.cond _ rfl (fun hc0 => ?_) (fun hc0 => ?_)
    · skip
      exfalso
      simp at hc0
    · skip
      try simp only [decide_eq_false_iff_not, Int.not_lt] at hc0
      refine AWp.exit ?_
      refine thenQ_e (thenQ_e (blkQ_e (thenQ_n ?_)))
      refine hK2 _ _ ?_
      try clear hK2 K2
      refine AWp.mask [] rfl ?_
      simp only [go_sem]
      refine AWp.rs fun K6 hK6 => ?_
      try simp only [go_sem]
      refine hK6 _ _ ?_
      try clear hK6 K6
      refine AWp.ret ?_
      apply endW_r [] [] [] [] (by (try simp only [go_sem]); rfl)
      · exact ⟨rfl, rfl⟩
      · simp [LeA, LeD]
end Go.Proofs.YthhfbolhlbgbgaaDoor

namespace Go.Proofs.YthhfbolhlbgbgaaDoor
set_option linter.unusedSimpArgs false
set_option linter.unusedVariables false
abbrev mOb (x : BM) : Nat × Ob := (x.m, ⟨3, x.c, dRows (mailsD x.b.mails)⟩)
theorem frontX (A : List (Nat × Ob)) {l : List BM} {i : Nat} {x : BM} {F : List (Nat × Ob)} (h : l[i]? = some x) (hc : 0 < x.c) : (A ++ mObjs l F).Perm (mOb x :: (A ++ mObjs (l.eraseIdx i) F)) := by
  have h1 := mObjs_front F h
  rw [mO_pos hc] at h1
  exact (h1.append_left A).trans List.perm_middle
theorem backX (A : List (Nat × Ob)) {l : List BM} {i : Nat} (y : BM) {F : List (Nat × Ob)} (h : i < l.length) (hc : 0 < y.c) : (mOb y :: (A ++ mObjs (l.eraseIdx i) F)).Perm (A ++ mObjs (l.set i y) F) := by
  have h1 := mObjs_put y F h
  rw [mO_pos hc] at h1
  exact List.perm_middle.symm.trans (h1.append_left A)
theorem backX' (A : List (Nat × Ob)) {l : List BM} {i : Nat} {x : BM} {F : List (Nat × Ob)} (h : l[i]? = some x) (hc : 0 < x.c) : (mOb x :: (A ++ mObjs (l.eraseIdx i) F)).Perm (A ++ mObjs l F) := (frontX A h hc).symm
theorem bmB_bytes {l : List BM} {k : Nat} (h : k < l.length) : bytesB ((bmB l).drop k) = bytesM (l[k]'h).b.mails + bytesB ((bmB l).drop (k + 1)) := by
  rw [bytesB_t (show k < (bmB l).length by simpa [bmB] using h), bmB_get h]
theorem nd4 {x y z v : Nat} {o o' o2 o3 : Ob} {F : List (Nat × Ob)} (h : (List.map Prod.fst ((x, o) :: (y, o') :: (z, o2) :: (v, o3) :: F)).Nodup) : x ≠ y ∧ x ≠ z ∧ x ≠ v := by
  simp only [List.map_cons, List.nodup_cons, List.mem_cons, not_or] at h
  exact ⟨h.1.1, h.1.2.1, h.1.2.2.1⟩
/-- bounds of a state that is being written -/
structure BmS (l : List BM) : Prop where
  h1 : l.length ≤ 1000
  h2 : ∀ x ∈ l, x.b.mails.length ≤ 1000
  h3 : bytesB (bmB l) ≤ 1000000
  h4 : ∀ x ∈ l, 0 ≤ x.b.next
set_option maxRecDepth 4000 in
set_option maxHeartbeats 1000000 in
theorem sizeM_c (T : Tbl) (l : List BM) (sp : List Ent) (u bb cb : Nat) (F : List (Nat × Ob)) (L : List Nat) (sb : BmS l) : AC Tryd.prog T 53 [.agg [.arr bb 3 l.length cb, .own u 6 (entsD sp)]] (⟨(bb, ⟨3, cb, bmRows l⟩) :: mObjs l F, L⟩) (fun r h => r = .ret (.d (.int .i64 (bytesB (bmB l) : Nat))) ∧ h = ⟨(bb, ⟨3, cb, bmRows l⟩) :: mObjs l F, L⟩) := by
  refine ⟨Tryd.call53, ACalls.enterS Tryd.func53 rfl Tryd.ntmps53 rfl fun hb => ?_⟩
  obtain ⟨sb1, sb2, sb3, sb4⟩ := sb
  simp only [go_sem, Tryd.results53]
  refine AWp.rs fun K1 hK1 => ?_
  try simp only [go_sem]
  intro b1
  first | intro fb1 | have fb1 := True.intro
  try simp only [freshL] at fb1
  refine hK1 _ _ ?_
  try clear hK1 K1
  refine AWp.rs fun K2 hK2 => ?_
  try simp only [go_sem]
  refine hK2 _ _ ?_
  try clear hK2 K2
  refine AWp.seq fun K3 hK3 => ?_
  refine AWp.rs fun K4 hK4 => ?_
  try simp only [go_sem, fb1]
  refine hK4 _ _ ?_
  try clear hK4 K4
  refine AWp.mask [false, false, false, true, false, true, true, true] rfl ?_
  simp only [go_sem]
  refine AWp.block ?_
  refine AWp.loopS [false, true, true] [true, false, false, true] (fun n lc hc => ∃ (k a : Nat), n = l.length - k ∧ EqS lc [(3, .d (.int .i64 (a : Nat))), (11, .d (.int .i64 k))] ∧ EqS hc (⟨(b1, ⟨2, 1, [[.arr bb 3 l.length cb, .own u 6 (entsD sp)]]⟩) :: (bb, ⟨3, cb, bmRows l⟩) :: mObjs l F, L⟩) ∧ (k ≤ l.length) ∧ (a + bytesB ((bmB l).drop k) = bytesB (bmB l))) rfl ?_ ?_
  · refine ⟨_, 0, 0, rfl, ?_, ?_, ?_, ?_⟩
    · (try simp only [go_sem]) <;> first | exact ⟨rfl⟩ | (constructor; simp; done)
    · (try simp only [go_sem, icast, bmRows_len, mailsD_len, dRows_len, fb1]) <;> first | exact ⟨rfl⟩ | (constructor; simp; done)
    all_goals (first | omega | (simp; done))
  · rintro _ _ _ ⟨k, a, rfl, ⟨rfl⟩, ⟨rfl⟩, h1, h2⟩
    simp only [go_sem]
    refine AWp.rs fun K5 hK5 => ?_
    try simp only [go_sem]
    refine hK5 _ _ ?_
    try clear hK5 K5
    refine AWp.seq fun K6 hK6 => ?_
    refine AWp.cond _ rfl (fun hc0 => ?_) (fun hc0 => ?_)
    · skip
      try simp only [decide_eq_true_eq] at hc0
      have hlt : k < l.length := by omega
      have hx : l[k]? = some (l[k]'hlt) := List.getElem?_eq_getElem hlt
      have hb := bmB_bytes hlt
      have hm3 := sb2 _ (List.getElem_mem hlt)
      refine AWp.nd fun hnd => ?_
      have hne := nd2 hnd
      clear hnd
      refine AWp.skip ?_
      refine thenQ_n ?_
      refine hK6 _ _ ?_
      try clear hK6 K6
      refine AWp.seq fun K7 hK7 => ?_
      refine AWp.block ?_
      rcases Nat.eq_zero_or_pos (l[k]'hlt).c with hz | hz
      · skip
        have hm0 := (l[k]'hlt).ok hz
        refine AWp.rs fun K8 hK8 => ?_
        try simp only [go_sem, fb1, bmRows_get hx, hz, mA_nil]
        (repeat (with_reducible refine And.intro ?_ ?_; omega))
        intro b5
        first | intro fb5 | have fb5 := True.intro
        try simp only [freshL] at fb5
        refine hK8 _ _ ?_
        try clear hK8 K8
        refine AWp.rs fun K9 hK9 => ?_
        try simp only [go_sem, fb5]
        refine hK9 _ _ ?_
        try clear hK9 K9
        refine AWp.mask [true, false, true, true, true, false, false, false, false, true, true, true] rfl ?_
        simp only [go_sem]
        refine AWp.block ?_
        refine AWp.loopS [false, true, true, true, true, true] [true, false, false, false, false, false, true] (fun n lc hc => ∃ (j : Nat), n = j ∧ EqS lc [(3, .d (.int .i64 (a : Nat))), (18, .d (.int .i64 0))] ∧ EqS hc (⟨((b5, ⟨3, 1, [[.d (.str ((l[k]'hlt).b.name)), .d (.int .i64 ((l[k]'hlt).b.next)), .full 3 []]]⟩) :: (b1, ⟨2, 1, [[.arr bb 3 l.length cb, .own u 6 (entsD sp)]]⟩) :: (bb, ⟨3, cb, bmRows l⟩) :: mObjs l F), L⟩)) rfl ?_ ?_
        · refine ⟨_, 0, rfl, ?_, ?_⟩
          · (try simp only [go_sem]) <;> first | exact ⟨rfl⟩ | (constructor; simp; done)
          · (try simp only [go_sem, icast, bmRows_len, mailsD_len, dRows_len, fb1, bmRows_get hx, bne_l hne, bne_r hne, hz, mA_nil, fb5]) <;> first | exact ⟨rfl⟩ | (constructor; simp; done)
        · rintro _ _ _ ⟨j, rfl, ⟨rfl⟩, ⟨rfl⟩⟩
          simp only [go_sem]
          refine AWp.rs fun K10 hK10 => ?_
          try simp only [go_sem]
          refine hK10 _ _ ?_
          try clear hK10 K10
          refine AWp.seq fun K11 hK11 => ?_
          refine AWp.cond _ rfl (fun hc1 => ?_) (fun hc1 => ?_)
          · skip
            exfalso
            simp at hc1
          · skip
            try simp only [decide_eq_false_iff_not, Int.not_lt] at hc1
            rw [hm0] at hb
            simp only [bytesM] at hb
            refine AWp.exit ?_
            refine thenQ_e (thenQ_e (blkQ_e (blkQ_n (thenQ_n ?_))))
            refine hK7 _ _ ?_
            try clear hK7 K7
            refine AWp.mask [true, true, true, true] rfl ?_
            simp only [go_sem]
            refine AWp.rk fun K12 hK12 => ?_
            try simp only [go_sem, icast]
            (repeat (with_reducible refine And.intro ?_ ?_; omega))
            refine hK12 _ _ ?_
            try clear hK12 K12
            refine thenQ_n ?_
            refine EndS.mk [false, true, true] [true, false, false, true] [b5] [] [b1, bb] [] rfl ?_ ?_
            · (try simp only [go_sem]) <;> try rfl
            refine .e ⟨_, ?_, k + 1, a, rfl, ?_, ?_, ?_, ?_⟩
            · first | omega | (simp; omega) | (grind)
            · (try simp only [go_sem]) <;> first | exact ⟨rfl⟩ | (constructor; simp; done)
            · (try simp only [go_sem, fb1, fb5]) <;> first | exact ⟨rfl⟩ | (constructor; simp; done)
            all_goals first | omega
      · skip
        refine AWp.rs fun K8 hK8 => ?_
        try simp only [go_sem, fb1, bmRows_get hx, mA_pos hz]
        (repeat (with_reducible refine And.intro ?_ ?_; omega))
        intro b5
        first | intro fb5 | have fb5 := True.intro
        try simp only [freshL] at fb5
        refine hK8 _ _ ?_
        try clear hK8 K8
        refine AWp.pm (frontX [_, _, _] hx hz) ?_
        refine AWp.nd fun hnd => ?_
        obtain ⟨hq1, hq2, hq3⟩ := nd4 hnd
        clear hnd
        · skip
          refine AWp.rs fun K13 hK13 => ?_
          try simp only [go_sem, fb5, bne_l hq1]
          refine hK13 _ _ ?_
          try clear hK13 K13
          refine AWp.mask [true, false, true, true, true, false, false, false, false, true, true, true] rfl ?_
          simp only [go_sem]
          refine AWp.block ?_
          refine AWp.loopS [false, true, true, true, true, true] [true, false, false, false, false, false, true] (fun n lc hc => ∃ (j c : Nat), n = (l[k]'hlt).b.mails.length - j ∧ EqS lc [(3, .d (.int .i64 (c : Nat))), (18, .d (.int .i64 j))] ∧ EqS hc (⟨(mOb (l[k]'hlt) :: (b5, ⟨3, 1, [[.d (.str ((l[k]'hlt).b.name)), .d (.int .i64 ((l[k]'hlt).b.next)), .arr (l[k]'hlt).m 3 (l[k]'hlt).b.mails.length (l[k]'hlt).c]]⟩) :: (b1, ⟨2, 1, [[.arr bb 3 l.length cb, .own u 6 (entsD sp)]]⟩) :: (bb, ⟨3, cb, bmRows l⟩) :: mObjs (l.eraseIdx k) F), L⟩) ∧ (j ≤ (l[k]'hlt).b.mails.length) ∧ (c + bytesM ((l[k]'hlt).b.mails.drop j) = a + bytesM (l[k]'hlt).b.mails)) rfl ?_ ?_
          · refine ⟨_, 0, a, rfl, ?_, ?_, ?_, ?_⟩
            · (try simp only [go_sem]) <;> first | exact ⟨rfl⟩ | (constructor; simp; done)
            · (try simp only [go_sem, icast, bmRows_len, mailsD_len, dRows_len, fb1, bmRows_get hx, bne_l hne, bne_r hne, mA_pos hz, fb5, bne_l hq1, bne_r hq1, bne_l hq2, bne_r hq2, bne_l hq3, bne_r hq3]) <;> first | exact ⟨rfl⟩ | (constructor; simp; done)
            all_goals (first | omega | (simp; done))
          · rintro _ _ _ ⟨j, c, rfl, ⟨rfl⟩, ⟨rfl⟩, g1, g2⟩
            simp only [go_sem]
            refine AWp.rs fun K14 hK14 => ?_
            try simp only [go_sem]
            refine hK14 _ _ ?_
            try clear hK14 K14
            refine AWp.seq fun K15 hK15 => ?_
            refine AWp.cond _ rfl (fun hc1 => ?_) (fun hc1 => ?_)
            · skip
              try simp only [decide_eq_true_eq] at hc1
              have hlj : j < (l[k]'hlt).b.mails.length := by omega
              have hm := bytesM_t hlj
              refine AWp.skip ?_
              refine thenQ_n ?_
              refine hK15 _ _ ?_
              try clear hK15 K15
              refine AWp.seq fun K16 hK16 => ?_
              refine AWp.block ?_
              refine AWp.rs fun K17 hK17 => ?_
              try simp only [go_sem, bne_r hq1, bne_r hq2, bne_r hq3, mrow_g (List.getElem?_eq_getElem hlj)]
              (repeat (with_reducible refine And.intro ?_ ?_; omega))
              intro b7
              first | intro fb7 | have fb7 := True.intro
              try simp only [freshL] at fb7
              refine hK17 _ _ ?_
              try clear hK17 K17
              refine AWp.rk fun K18 hK18 => ?_
              try simp only [go_sem, fb7]
              (repeat (with_reducible refine And.intro ?_ ?_; omega))
              refine hK18 _ _ ?_
              try clear hK18 K18
              refine blkQ_n (thenQ_n ?_)
              refine hK16 _ _ ?_
              try clear hK16 K16
              refine AWp.mask [true, false, true, true, true, true, true, true] rfl ?_
              simp only [go_sem]
              refine AWp.rk fun K19 hK19 => ?_
              try simp only [go_sem, icast]
              (repeat (with_reducible refine And.intro ?_ ?_; omega))
              refine hK19 _ _ ?_
              try clear hK19 K19
              refine thenQ_n ?_
              refine EndS.mk [false, true, true, true, true, true] [true, false, false, false, false, false, true] [b7] [] [(l[k]'hlt).m, b5, b1, bb] [] rfl ?_ ?_
              · (try simp only [go_sem]) <;> try rfl
              refine .e ⟨_, ?_, j + 1, (c + (((l[k]'hlt).b.mails)[j]'hlj).text.length), rfl, ?_, ?_, ?_, ?_⟩
              · first | omega | (simp; omega) | (grind)
              · (try simp only [go_sem]) <;> first | exact ⟨rfl⟩ | (constructor; simp; done)
              · (try simp only [go_sem, fb1, fb5, bne_l hq1, bne_r hq1, bne_l hq2, bne_r hq2, bne_l hq3, bne_r hq3, fb7]) <;> first | exact ⟨rfl⟩ | (constructor; simp; done)
              all_goals first | omega | (rw [bytesM_t hlj] at g2; omega)
            · skip
              try simp only [decide_eq_false_iff_not, Int.not_lt] at hc1
              have hm := bytesM_end (l := (l[k]'hlt).b.mails) (k := j) (by omega)
              refine AWp.exit ?_
              refine thenQ_e (thenQ_e (blkQ_e (blkQ_n (thenQ_n ?_))))
              refine hK7 _ _ ?_
              try clear hK7 K7
              refine AWp.mask [true, true, true, true] rfl ?_
              simp only [go_sem]
              refine AWp.pm (backX' [_, _, _] hx hz) ?_
              · skip
                refine AWp.rk fun K20 hK20 => ?_
                try simp only [go_sem, icast]
                (repeat (with_reducible refine And.intro ?_ ?_; omega))
                refine hK20 _ _ ?_
                try clear hK20 K20
                refine thenQ_n ?_
                refine EndS.mk [false, true, true] [true, false, false, true] [b5] [] [b1, bb] [] rfl ?_ ?_
                · (try simp only [go_sem]) <;> try rfl
                refine .e ⟨_, ?_, k + 1, c, rfl, ?_, ?_, ?_, ?_⟩
                · first | omega | (simp; omega) | (grind)
                · (try simp only [go_sem]) <;> first | exact ⟨rfl⟩ | (constructor; simp; done)
                · (try simp only [go_sem, fb1, fb5]) <;> first | exact ⟨rfl⟩ | (constructor; simp; done)
                all_goals first | omega
    · skip
      try simp only [decide_eq_false_iff_not, Int.not_lt] at hc0
      refine AWp.exit ?_
      refine thenQ_e (thenQ_e (blkQ_e (thenQ_n ?_)))
      refine hK3 _ _ ?_
      try clear hK3 K3
      refine AWp.mask [true] rfl ?_
      simp only [go_sem]
      refine AWp.rs fun K21 hK21 => ?_
      try simp only [go_sem]
      refine hK21 _ _ ?_
      try clear hK21 K21
      refine AWp.ret ?_
      apply endW_r [b1] [] [] [] (by (try simp only [go_sem]); rfl)
      · exact ⟨rfl, by simp [go_sem]⟩
      · have hb := bytesB_end (l := bmB l) (k := k) (by simp [bmB]; omega)
        have hk : a = bytesB (bmB l) := by omega
        rw [hk]; simp [LeA, LeD]
end Go.Proofs.YthhfbolhlbgbgaaDoor

namespace Go.Proofs.YthhfbolhlbgbgaaDoor
set_option linter.unusedSimpArgs false
set_option linter.unusedVariables false
/-- a mail added to a box -/
def addB (x : BoxS) (fl : Int) (tx : Tx) : BoxS := ⟨x.name, x.next + 1, x.mails ++ [⟨x.next, fl, tx⟩]⟩
def addS (bs : List BoxS) (i : Nat) (fl : Int) (tx : Tx) : List BoxS × Int :=
  match bs[i]? with
  | none => (bs, 0)
  | some x => if x.mails.length = 30 ∨ 1048576 < x.next ∨ 6000 < bytesB bs + tx.length then (bs, 5) else (bs.set i (addB x fl tx), 0)
theorem sNat (n : Nat) : ((n : Nat) : Int).toNat = n := rfl
theorem addS_5 {bs : List BoxS} {i : Nat} {x : BoxS} {fl : Int} {tx : Tx} (h : bs[i]? = some x) (hc : x.mails.length = 30 ∨ 1048576 < x.next ∨ 6000 < bytesB bs + tx.length) : addS bs i fl tx = (bs, 5) := by rw [addS, h]; exact if_pos hc
theorem addS_0 {bs : List BoxS} {i : Nat} {x : BoxS} {fl : Int} {tx : Tx} (h : bs[i]? = some x) (hc : ¬ (x.mails.length = 30 ∨ 1048576 < x.next ∨ 6000 < bytesB bs + tx.length)) : addS bs i fl tx = (bs.set i (addB x fl tx), 0) := by rw [addS, h]; exact if_neg hc
theorem bmB_at {l : List BM} {i : Nat} {x : BM} (h : l[i]? = some x) : (bmB l)[i]? = some x.b := by simp [bmB, h]
theorem bmB_set (l : List BM) (i : Nat) (y : BM) : bmB (l.set i y) = (bmB l).set i y.b := by simp [bmB, List.map_set]
theorem bmRows_set (l : List BM) (i : Nat) (y : BM) : (bmRows l).set i (bmRow y) = bmRows (l.set i y) := by simp [bmRows, List.map_set]
theorem lt_of_some {l : List BM} {i : Nat} {x : BM} (h : l[i]? = some x) : i < l.length := (List.getElem?_eq_some_iff.1 h).1
theorem nd3 {x y z : Nat} {o o' o2 : Ob} {F : List (Nat × Ob)} (h : (List.map Prod.fst ((x, o) :: (y, o') :: (z, o2) :: F)).Nodup) : x ≠ y ∧ x ≠ z := by
  simp only [List.map_cons, List.nodup_cons, List.mem_cons, not_or] at h
  exact ⟨h.1.1, h.1.2.1⟩
theorem front0 (A : List (Nat × Ob)) {l : List BM} {i : Nat} {x : BM} {F : List (Nat × Ob)} (h : l[i]? = some x) (hc : x.c = 0) : (A ++ mObjs l F).Perm (A ++ mObjs (l.eraseIdx i) F) := by
  have h1 := mObjs_front F h
  rw [hc, mO_nil] at h1
  exact h1.append_left A
theorem LeH.of_eq {h h' : AH} (e : h = h') : LeH h h' := e ▸ LeH.refl h
theorem permS (p q : Nat × Ob) (l : List BM) (F : List (Nat × Ob)) : (p :: q :: mObjs l F).Perm (q :: mObjs l (p :: F)) := (List.Perm.swap ..).trans ((mObjs_swap l p F).cons q)
set_option maxRecDepth 4000 in
set_option maxHeartbeats 1000000 in
theorem addM_c (T : Tbl) (s bb cb u : Nat) (sp : List Ent) (l : List BM) (i : Nat) (x : BM) (fl : Int) (tx : Tx) (F : List (Nat × Ob)) (L : List Nat) (hx : l[i]? = some x) (sb : BmS l) (htx : tx.length ≤ 2000) : AC Tryd.prog T 100 [.ptr s 2 0 0, .d (.int .i64 (i : Nat)), .d (.int .i64 fl), .d (.str tx)] (⟨(s, ⟨2, 1, [[.arr bb 3 l.length cb, .own u 6 (entsD sp)]]⟩) :: (bb, ⟨3, cb, bmRows l⟩) :: mObjs l F, L⟩) (fun r h => ∃ l', bmB l' = (addS (bmB l) i fl tx).1 ∧ l'.length = l.length ∧ r = .ret (.d (.int .i64 ((addS (bmB l) i fl tx).2))) ∧ h = ⟨(s, ⟨2, 1, [[.arr bb 3 l.length cb, .own u 6 (entsD sp)]]⟩) :: (bb, ⟨3, cb, bmRows l'⟩) :: mObjs l' F, L⟩) := by
  refine ⟨Tryd.call100, ACalls.enterS Tryd.func100 rfl Tryd.ntmps100 rfl fun hb => ?_⟩
  have hil := lt_of_some hx
  have hbx := bmB_at hx
  obtain ⟨sb1, sb2, sb3, sb4⟩ := id sb
  have hnx := sb4 _ (List.mem_of_getElem? hx)
  have hmx := sb2 _ (List.mem_of_getElem? hx)
  refine AWp.nd fun hnd => ?_
  have hne := nd2 hnd
  clear hnd
  simp only [go_sem, Tryd.results100]
  refine AWp.rs fun K1 hK1 => ?_
  try simp only [go_sem]
  refine hK1 _ _ ?_
  try clear hK1 K1
  rcases Nat.eq_zero_or_pos x.c with hz | hz
  · skip
    have hm0 := x.ok hz
    have hm1 : x.b.mails.length = 0 := by rw [hm0]; rfl
    refine AWp.rs fun K2 hK2 => ?_
    try simp only [go_sem, sNat, bne_r hne]
    (repeat (with_reducible refine And.intro ?_ ?_; omega))
    refine hK2 _ _ ?_
    try clear hK2 K2
    refine AWp.mask [true, false, true, true, false, true] rfl ?_
    simp only [go_sem]
    refine AWp.seq fun K3 hK3 => ?_
    by_cases hA : x.b.mails.length = 30 ∨ 1048576 < x.b.next
    · skip
      have hd : (decide (((0 : Nat) : Int) = 30) || decide (1048576 < x.b.next)) = true := by rw [Bool.or_eq_true, decide_eq_true_eq, decide_eq_true_eq]; omega
      refine AWp.rs fun K4 hK4 => ?_
      try simp only [go_sem, bmRows_get hx, bne_l hne, bne_r hne, hz, mA_nil, hd]
      (repeat (with_reducible refine And.intro ?_ ?_; decide))
      refine DW.skipc rfl (by first | rfl | (simp only [go_sem, hd]; done) | (simp only [go_sem, hd]; rfl)) ?_
      try simp only [go_sem]
      (repeat (with_reducible refine And.intro ?_ ?_; decide))
      refine hK4 _ _ ?_
      try clear hK4 K4
      refine AWp.mask [false, true, true, true, false, false, false, false, false, false, false, false, false, false, false, false, false, false, false, false, false, false, false, false, false, false, true] rfl ?_
      simp only [go_sem]
      refine AWp.cond _ rfl (fun hc0 => ?_) (fun hc0 => ?_)
      · skip
        try simp only [] at hc0
        refine AWp.rs fun K5 hK5 => ?_
        try simp only [go_sem]
        refine hK5 _ _ ?_
        try clear hK5 K5
        refine AWp.mask [false, false, true] rfl ?_
        simp only [go_sem]
        refine AWp.ret ?_
        try simp only [thenQ]
        apply endW_r [] [] [] [] (by (try simp only [go_sem]); rfl)
        · exact ⟨l, by rw [addS_5 hbx (by omega)], rfl, rfl, rfl⟩
        · rw [addS_5 hbx (by omega)]; simp [LeA, LeD]
      · skip
        exact absurd hc0 (by simp)
    · skip
      have hd1 : decide (((0 : Nat) : Int) = 30) = false := decide_eq_false (by omega)
      have hd2 : decide (1048576 < x.b.next) = false := decide_eq_false (by omega)
      refine AWp.rsG 17 fun K4 hK4 => ?_
      simp only [List.take_succ_cons, List.take_zero, List.drop_succ_cons, List.drop_zero]
      try simp only [go_sem, bmRows_get hx, bne_l hne, bne_r hne, hz, mA_nil, hd1, hd2]
      refine LV.gcall rfl rfl (by first | rfl | (simp only [go_sem, icast, bmRows_len, sNat, bmRows_get hx, bne_l hne, bne_r hne, hz, mA_nil, hd1, hd2, Bool.or_false, Bool.false_or]; done) | (simp only [go_sem, icast, bmRows_len, sNat, bmRows_get hx, bne_l hne, bne_r hne, hz, mA_nil, hd1, hd2, Bool.or_false, Bool.false_or]; rfl)) rfl rfl (by rfl) (LeH.pm (permS _ _ _ _)) (by first | rfl | (simp only [go_sem, icast, bmRows_len, sNat, bmRows_get hx, bne_l hne, bne_r hne, hz, mA_nil, hd1, hd2, Bool.or_false, Bool.false_or]; done) | (simp only [go_sem, icast, bmRows_len, sNat, bmRows_get hx, bne_l hne, bne_r hne, hz, mA_nil, hd1, hd2, Bool.or_false, Bool.false_or]; rfl)) (sizeM_c T l sp u bb cb _ _ sb) ?_
      rintro _ _ ⟨rfl, rfl⟩
      refine LV.leH (LeH.pm (permS _ _ _ _).symm) (LV.lvc ?_)
      try simp only [go_sem, Bool.false_or]
      (repeat (with_reducible refine And.intro ?_ ?_; omega))
      refine hK4 _ _ ?_
      try clear hK4 K4
      refine AWp.mask [false, true, true, true, false, false, false, false, false, false, false, false, false, false, false, false, false, false, false, false, false, false, false, false, false, false, true] rfl ?_
      simp only [go_sem]
      refine AWp.cond _ rfl (fun hc0 => ?_) (fun hc0 => ?_)
      · skip
        try simp only [decide_eq_true_eq] at hc0
        refine AWp.rs fun K6 hK6 => ?_
        try simp only [go_sem]
        refine hK6 _ _ ?_
        try clear hK6 K6
        refine AWp.mask [false, false, true] rfl ?_
        simp only [go_sem]
        refine AWp.ret ?_
        try simp only [thenQ]
        apply endW_r [] [] [] [] (by (try simp only [go_sem]); rfl)
        · exact ⟨l, by rw [addS_5 hbx (by omega)], rfl, rfl, rfl⟩
        · rw [addS_5 hbx (by omega)]; simp [LeA, LeD]
      · skip
        try simp only [decide_eq_false_iff_not, Int.not_lt] at hc0
        refine AWp.skip ?_
        refine thenQ_n ?_
        refine hK3 _ _ ?_
        try clear hK3 K3
        refine AWp.pm (front0 [_, _] hx hz) ?_
        simp only [List.cons_append, List.nil_append]
        · skip
          refine AWp.ds true [0, 1, 2, 3, 4, 5, 6, 7, 8, 9, 10, 11, 12, 13, 14, 15, 16] rfl (by kernel_rfl) fun K7 hK7 => ?_
          try simp only [go_sem, bmRows_get hx, bne_l hne, hz, mA_nil]
          refine DW.appM (b0 := 0) (c0 := 0) (rows := []) rfl rfl rfl rfl (fun _ => rfl) rfl (show slI Tryd.prog 90 = some (97, 3, 32) by simp only [go_sem]) rfl rfl (by simp) rfl (by first | decide | (simp; done) | omega) (by first | omega | (simp only [go_sem] <;> omega) | (simp only [go_sem, List.length_take, List.length_map, List.length_append, List.length_cons, List.length_nil] <;> omega) | (simp <;> omega)) (by first | omega | (simp only [go_sem] <;> omega) | (simp only [go_sem, List.length_take, List.length_map, List.length_append, List.length_cons, List.length_nil] <;> omega) | (simp <;> omega)) fun bm1 cm1 hcm1 fbm1 => ?_
          try simp only [freshL] at fbm1
          try simp only [go_sem, bmRows_get hx, bne_l hne, hz, mA_nil, fbm1]
          refine hK7 _ _ ?_
          try clear hK7 K7
          refine AWp.mask [false, false, true] rfl ?_
          simp only [go_sem]
          refine AWp.rs fun K8 hK8 => ?_
          try simp only [go_sem, bne_l hne, List.getElem?_set_self (show i < (bmRows l).length by rw [bmRows_len]; exact hil), List.set_set, fbm1]
          (repeat (with_reducible refine And.intro ?_ ?_; omega))
          refine hK8 _ _ ?_
          try clear hK8 K8
          refine AWp.mask [] rfl ?_
          simp only [go_sem]
          refine AWp.leH (LeH.of_eq (h' := ⟨mOb (⟨addB x.b fl tx, bm1, cm1, fun h => absurd h (by omega)⟩ : BM) :: (s, ⟨2, 1, [[.arr bb 3 l.length cb, .own u 6 (entsD sp)]]⟩) :: (bb, ⟨3, cb, bmRows (l.set i (⟨addB x.b fl tx, bm1, cm1, fun h => absurd h (by omega)⟩ : BM))⟩) :: mObjs (l.eraseIdx i) F, L⟩) ?_) ?_
          · rw [← bmRows_set]; simp [mOb, bmRow, addB, mA_pos hcm1, mailsD, dRows, mailD, hm0]
          refine AWp.pm (backX [_, _] (⟨addB x.b fl tx, bm1, cm1, fun h => absurd h (by omega)⟩ : BM) hil hcm1) ?_
          · skip
            refine AWp.rs fun K9 hK9 => ?_
            try simp only [go_sem]
            refine hK9 _ _ ?_
            try clear hK9 K9
            refine AWp.ret ?_
            apply endW_r [] [] [] [] (by (try simp only [go_sem]); rfl)
            · exact ⟨l.set i (⟨addB x.b fl tx, bm1, cm1, fun h => absurd h (by omega)⟩ : BM), by rw [bmB_set, addS_0 hbx (by omega)], by simp, rfl, rfl⟩
            · rw [addS_0 hbx (by omega)]; simp [LeA, LeD]
  · skip
    refine AWp.rs fun K2 hK2 => ?_
    try simp only [go_sem, sNat, bne_r hne]
    (repeat (with_reducible refine And.intro ?_ ?_; omega))
    refine hK2 _ _ ?_
    try clear hK2 K2
    refine AWp.mask [true, false, true, true, false, true] rfl ?_
    simp only [go_sem]
    refine AWp.seq fun K10 hK10 => ?_
    by_cases hA : x.b.mails.length = 30 ∨ 1048576 < x.b.next
    · skip
      have hd : (decide (((x.b.mails.length : Nat) : Int) = 30) || decide (1048576 < x.b.next)) = true := by rw [Bool.or_eq_true, decide_eq_true_eq, decide_eq_true_eq]; omega
      refine AWp.rs fun K11 hK11 => ?_
      try simp only [go_sem, bmRows_get hx, bne_l hne, bne_r hne, mA_pos hz, hd]
      (repeat (with_reducible refine And.intro ?_ ?_; (exact nfB)))
      refine DW.skipc rfl (by first | rfl | (simp only [go_sem, hd]; done) | (simp only [go_sem, hd]; rfl)) ?_
      try simp only [go_sem]
      (repeat (with_reducible refine And.intro ?_ ?_; decide))
      refine hK11 _ _ ?_
      try clear hK11 K11
      refine AWp.mask [false, true, true, true, false, false, false, false, false, false, false, false, false, false, false, false, false, false, false, false, false, false, false, false, false, false, true] rfl ?_
      simp only [go_sem]
      refine AWp.cond _ rfl (fun hc0 => ?_) (fun hc0 => ?_)
      · skip
        try simp only [] at hc0
        refine AWp.rs fun K12 hK12 => ?_
        try simp only [go_sem]
        refine hK12 _ _ ?_
        try clear hK12 K12
        refine AWp.mask [false, false, true] rfl ?_
        simp only [go_sem]
        refine AWp.ret ?_
        try simp only [thenQ]
        apply endW_r [] [] [] [] (by (try simp only [go_sem]); rfl)
        · exact ⟨l, by rw [addS_5 hbx (by omega)], rfl, rfl, rfl⟩
        · rw [addS_5 hbx (by omega)]; simp [LeA, LeD]
      · skip
        exact absurd hc0 (by simp)
    · skip
      have hd1 : decide (((x.b.mails.length : Nat) : Int) = 30) = false := decide_eq_false (by omega)
      have hd2 : decide (1048576 < x.b.next) = false := decide_eq_false (by omega)
      refine AWp.rsG 17 fun K11 hK11 => ?_
      simp only [List.take_succ_cons, List.take_zero, List.drop_succ_cons, List.drop_zero]
      try simp only [go_sem, bmRows_get hx, bne_l hne, bne_r hne, mA_pos hz, hd1, hd2]
      refine LV.gcall rfl rfl (by first | rfl | (simp only [go_sem, icast, bmRows_len, sNat, bmRows_get hx, bne_l hne, bne_r hne, mA_pos hz, hd1, hd2, Bool.or_false, Bool.false_or]; done) | (simp only [go_sem, icast, bmRows_len, sNat, bmRows_get hx, bne_l hne, bne_r hne, mA_pos hz, hd1, hd2, Bool.or_false, Bool.false_or]; rfl)) rfl rfl (by rfl) (LeH.pm (permS _ _ _ _)) (by first | rfl | (simp only [go_sem, icast, bmRows_len, sNat, bmRows_get hx, bne_l hne, bne_r hne, mA_pos hz, hd1, hd2, Bool.or_false, Bool.false_or]; done) | (simp only [go_sem, icast, bmRows_len, sNat, bmRows_get hx, bne_l hne, bne_r hne, mA_pos hz, hd1, hd2, Bool.or_false, Bool.false_or]; rfl)) (sizeM_c T l sp u bb cb _ _ sb) ?_
      rintro _ _ ⟨rfl, rfl⟩
      refine LV.leH (LeH.pm (permS _ _ _ _).symm) (LV.lvc ?_)
      try simp only [go_sem, Bool.false_or]
      (repeat (with_reducible refine And.intro ?_ ?_; omega))
      refine hK11 _ _ ?_
      try clear hK11 K11
      refine AWp.mask [false, true, true, true, false, false, false, false, false, false, false, false, false, false, false, false, false, false, false, false, false, false, false, false, false, false, true] rfl ?_
      simp only [go_sem]
      refine AWp.cond _ rfl (fun hc0 => ?_) (fun hc0 => ?_)
      · skip
        try simp only [decide_eq_true_eq] at hc0
        refine AWp.rs fun K13 hK13 => ?_
        try simp only [go_sem]
        refine hK13 _ _ ?_
        try clear hK13 K13
        refine AWp.mask [false, false, true] rfl ?_
        simp only [go_sem]
        refine AWp.ret ?_
        try simp only [thenQ]
        apply endW_r [] [] [] [] (by (try simp only [go_sem]); rfl)
        · exact ⟨l, by rw [addS_5 hbx (by omega)], rfl, rfl, rfl⟩
        · rw [addS_5 hbx (by omega)]; simp [LeA, LeD]
      · skip
        try simp only [decide_eq_false_iff_not, Int.not_lt] at hc0
        refine AWp.skip ?_
        refine thenQ_n ?_
        refine hK10 _ _ ?_
        try clear hK10 K10
        refine AWp.pm (frontX [_, _] hx hz) ?_
        simp only [List.cons_append, List.nil_append]
        refine AWp.nd fun hnd => ?_
        obtain ⟨hq1, hq2⟩ := nd3 hnd
        clear hnd
        · skip
          refine AWp.ds true [0, 1, 2, 3, 4, 5, 6, 7, 8, 9, 10, 11, 12, 13, 14, 15, 16] rfl (by kernel_rfl) fun K14 hK14 => ?_
          try simp only [go_sem, bmRows_get hx, bne_l hne, mA_pos hz, bne_l hq2]
          refine DW.appM (b0 := x.m) (c0 := x.c) (rows := dRows (mailsD x.b.mails)) rfl rfl (Eq.trans (b := .arr x.m 3 x.b.mails.length x.c) rfl (by rw [mA_pos hz, dRows_len, mailsD_len])) (by rw [mO_pos hz]) (fun h => absurd h (by omega)) rfl (show slI Tryd.prog 90 = some (97, 3, 32) by simp only [go_sem]) rfl rfl (mails_full _) rfl (by first | decide | (simp; done) | omega) (by (try simp only [go_sem, dRows_len, mailsD_len]); omega) (by (try simp only [go_sem, dRows_len, mailsD_len]); omega) fun bm2 cm2 hcm2 fbm2 => ?_
          try simp only [freshL] at fbm2
          try simp only [go_sem, bmRows_get hx, bne_l hne, mA_pos hz, fbm2]
          refine hK14 _ _ ?_
          try clear hK14 K14
          refine AWp.mask [false, false, true] rfl ?_
          simp only [go_sem]
          refine AWp.rs fun K15 hK15 => ?_
          try simp only [go_sem, bne_l hne, List.getElem?_set_self (show i < (bmRows l).length by rw [bmRows_len]; exact hil), List.set_set, fbm2]
          (repeat (with_reducible refine And.intro ?_ ?_; omega))
          refine hK15 _ _ ?_
          try clear hK15 K15
          refine AWp.mask [] rfl ?_
          simp only [go_sem]
          refine AWp.leH (LeH.of_eq (h' := ⟨mOb (⟨addB x.b fl tx, bm2, cm2, fun h => absurd h (by omega)⟩ : BM) :: (s, ⟨2, 1, [[.arr bb 3 l.length cb, .own u 6 (entsD sp)]]⟩) :: (bb, ⟨3, cb, bmRows (l.set i (⟨addB x.b fl tx, bm2, cm2, fun h => absurd h (by omega)⟩ : BM))⟩) :: mObjs (l.eraseIdx i) F, L⟩) ?_) ?_
          · rw [← bmRows_set]; simp [mOb, bmRow, addB, mA_pos hcm2, mailsD, dRows, mailD, List.map_append]
          refine AWp.pm (backX [_, _] (⟨addB x.b fl tx, bm2, cm2, fun h => absurd h (by omega)⟩ : BM) hil hcm2) ?_
          · skip
            refine AWp.rs fun K16 hK16 => ?_
            try simp only [go_sem]
            refine hK16 _ _ ?_
            try clear hK16 K16
            refine AWp.ret ?_
            apply endW_r [] [] [] [] (by (try simp only [go_sem]); rfl)
            · exact ⟨l.set i (⟨addB x.b fl tx, bm2, cm2, fun h => absurd h (by omega)⟩ : BM), by rw [bmB_set, addS_0 hbx (by omega)], by simp, rfl, rfl⟩
            · rw [addS_0 hbx (by omega)]; simp [LeA, LeD]
end Go.Proofs.YthhfbolhlbgbgaaDoor

namespace Go.Proofs.YthhfbolhlbgbgaaDoor
set_option linter.unusedSimpArgs false
set_option linter.unusedVariables false
section
variable {α : Type} {p : α → Bool}
theorem idx_none : ∀ {l : List α}, idxI p l = -1 → l.filter (fun x => !p x) = l
  | [], _ => rfl
  | x :: l, h => by
    rw [idxI] at h
    split at h
    · omega
    · rename_i hp
      have hg := idxI_ge (p := p) l
      have : idxI p l = -1 := by split at h <;> omega
      have hp : p x = false := by simpa using hp
      simp [hp, idx_none this]
theorem idx_some : ∀ {l : List α} {i : Nat}, idxI p l = (i : Nat) → i < l.length ∧ (l.take (i + 1)).filter (fun x => !p x) = l.take i
  | [], i, h => by simp [idxI] at h
  | x :: l, i, h => by
    rw [idxI] at h
    split at h
    · rename_i hp
      obtain rfl : i = 0 := by omega
      simp [hp]
    · rename_i hp
      have hp : p x = false := by simpa using hp
      split at h
      · omega
      · obtain ⟨j, rfl⟩ : ∃ j, i = j + 1 := ⟨i - 1, by omega⟩
        obtain ⟨h1, h2⟩ := idx_some (l := l) (i := j) (by omega)
        refine ⟨by simpa using h1, ?_⟩
        simp only [List.take_succ_cons, List.filter_cons, hp, Bool.not_false, if_true, h2]
end
def keepM (ms : List Mail) : List Mail := ms.filter fun x => !delB x
theorem keep_yes {ms : List Mail} {j : Nat} (h : j < ms.length) (hd : delB (ms[j]'h) = false) : keepM (ms.take (j + 1)) = keepM (ms.take j) ++ [ms[j]'h] := by
  rw [List.take_add_one, List.getElem?_eq_getElem h, keepM, List.filter_append]; simp [hd, keepM]
theorem keep_no {ms : List Mail} {j : Nat} (h : j < ms.length) (hd : delB (ms[j]'h) = true) : keepM (ms.take (j + 1)) = keepM (ms.take j) := by
  rw [List.take_add_one, List.getElem?_eq_getElem h, keepM, List.filter_append]; simp [hd, keepM]
theorem get_drop {R ms : List Mail} {j : Nat} (h : R.drop j = ms.drop j) (hj : j < ms.length) : R[j]? = some (ms[j]'hj) := by
  have := congrArg (fun l => l[0]?) h
  simpa [hj] using this
theorem take_set1 {R : List Mail} {i : Nat} {x : Mail} (h : i < R.length) : (R.set i x).take (i + 1) = R.take i ++ [x] := by
  rw [List.take_add_one, List.take_set_of_le (Nat.le_refl _)]
  simp [h]
theorem mrow_set2 (R : List Mail) (i : Nat) (x : Mail) : (dRows (mailsD R)).set i [.d (.int .i64 x.uid), .d (.int .i64 x.flags), .d (.str x.text)] = dRows (mailsD (R.set i x)) := by simp [dRows, mailsD, List.map_set, mailD]
theorem mrow_take (R : List Mail) (i : Nat) : (dRows (mailsD R)).take i = dRows (mailsD (R.take i)) := by simp [dRows, mailsD]
set_option maxRecDepth 4000 in
set_option maxHeartbeats 1000000 in
theorem DeleteM_c (T : Tbl) (ms : List Mail) (m c : Nat) (F : List (Nat × Ob)) (L : List Nat) (hl : ms.length ≤ 1000) (hfl : FlOk ms) : AC Tryd.prog T 101 [.arr m 3 ms.length c, .fn 102 []] (⟨(m, ⟨3, c, dRows (mailsD ms)⟩) :: F, L⟩) (fun r h => r = .ret (.arr m 3 (keepM ms).length c) ∧ h = ⟨(m, ⟨3, c, dRows (mailsD (keepM ms))⟩) :: F, L⟩) := by
  refine ⟨Tryd.call101, ACalls.enterS Tryd.func101 rfl Tryd.ntmps101 rfl fun hb => ?_⟩
  refine AWp.fit (ob := ⟨3, c, dRows (mailsD ms)⟩) (b := m) (by simp [getO]) fun hfit => ?_
  simp only [dRows_len, mailsD_len] at hfit
  simp only [go_sem, Tryd.results101]
  refine AWp.rs fun K1 hK1 => ?_
  try simp only [go_sem]
  refine hK1 _ _ ?_
  try clear hK1 K1
  refine AWp.rs fun K2 hK2 => ?_
  try simp only [go_sem]
  refine DW.acp [m] [] rfl rfl rfl rfl (by (try simp only [go_sem]); rfl) rfl (IndexDel_c T ms hfl m c _ _ hl) ?_
  rintro _ _ ⟨rfl, rfl⟩
  try simp only [go_sem]
  refine hK2 _ _ ?_
  try clear hK2 K2
  refine AWp.mask [true, true, false, true] rfl ?_
  simp only [go_sem]
  refine AWp.seq fun K3 hK3 => ?_
  refine AWp.rs fun K4 hK4 => ?_
  try simp only [go_sem]
  refine hK4 _ _ ?_
  try clear hK4 K4
  refine AWp.cond _ rfl (fun hc0 => ?_) (fun hc0 => ?_)
  · skip
    try simp only [decide_eq_true_eq] at hc0
    have hk0 : keepM ms = ms := idx_none hc0
    refine AWp.rs fun K5 hK5 => ?_
    try simp only [go_sem]
    refine hK5 _ _ ?_
    try clear hK5 K5
    refine AWp.mask [false, false, true] rfl ?_
    simp only [go_sem]
    refine AWp.ret ?_
    try simp only [thenQ]
    apply endW_r [] [] [] [] (by (try simp only [go_sem]); rfl)
    · exact ⟨rfl, by rw [hk0]; rfl⟩
    · rw [hk0]; simp [LeA]
  · skip
    try simp only [decide_eq_false_iff_not] at hc0
    have hge := idxI_ge (p := delB) ms
    obtain ⟨i0, hi0⟩ := Int.eq_ofNat_of_zero_le (show 0 ≤ idxI delB ms by omega)
    obtain ⟨hi1, hi2⟩ := idx_some hi0
    rw [hi0] at *
    refine AWp.skip ?_
    refine thenQ_n ?_
    refine hK3 _ _ ?_
    try clear hK3 K3
    refine AWp.seq fun K6 hK6 => ?_
    refine AWp.rs fun K7 hK7 => ?_
    try simp only [go_sem, icast]
    (repeat (with_reducible refine And.intro ?_ ?_; omega))
    refine hK7 _ _ ?_
    try clear hK7 K7
    refine AWp.mask [true, true, true, true] rfl ?_
    simp only [go_sem]
    refine AWp.block ?_
    refine AWp.loopS [true, true] [false, false, true, true] (fun n lc hc => ∃ (i j : Nat) (R : List Mail), n = ms.length - j ∧ EqS lc [(5, .d (.int .i64 (i : Nat))), (6, .d (.int .i64 (j : Nat)))] ∧ EqS hc (⟨(m, ⟨3, c, dRows (mailsD R)⟩) :: F, L⟩) ∧ (j ≤ ms.length) ∧ (i < j) ∧ (R.length = ms.length) ∧ (R.take i = keepM (ms.take j)) ∧ (R.drop j = ms.drop j)) rfl ?_ ?_
    · refine ⟨_, i0, (i0 + 1), ms, rfl, ?_, ?_, ?_, ?_, ?_, ?_, ?_⟩
      · (try simp only [go_sem]) <;> first | exact ⟨rfl⟩ | (constructor; simp; done)
      · (try simp only [go_sem, icast, dRows_len, mailsD_len, sNat]) <;> first | exact ⟨rfl⟩ | (constructor; simp; done)
      all_goals (first | omega | rfl | exact hi2.symm)
    · rintro _ _ _ ⟨i, j, R, rfl, ⟨rfl⟩, ⟨rfl⟩, h1, h2, h3, h4, h5⟩
      simp only [go_sem]
      refine AWp.seq fun K8 hK8 => ?_
      refine AWp.rs fun K9 hK9 => ?_
      try simp only [go_sem]
      refine hK9 _ _ ?_
      try clear hK9 K9
      refine AWp.cond _ rfl (fun hc1 => ?_) (fun hc1 => ?_)
      · skip
        try simp only [decide_eq_true_eq] at hc1
        have hlt : j < ms.length := by omega
        have hgd := get_drop h5 hlt
        refine AWp.skip ?_
        refine thenQ_n ?_
        refine hK8 _ _ ?_
        try clear hK8 K8
        refine AWp.mask [true, true, true, true] rfl ?_
        simp only [go_sem]
        refine AWp.seq fun K10 hK10 => ?_
        refine AWp.block ?_
        refine AWp.rs fun K11 hK11 => ?_
        try simp only [go_sem, sNat, mrow_g hgd]
        (repeat (with_reducible refine And.intro ?_ ?_; omega))
        intro b12
        first | intro fb12 | have fb12 := True.intro
        try simp only [freshL] at fb12
        refine hK11 _ _ ?_
        try clear hK11 K11
        refine AWp.mask [true, true, true, true, true] rfl ?_
        simp only [go_sem]
        refine AWp.rs fun K13 hK13 => ?_
        try simp only [go_sem, fb12]
        refine DW.pcr rfl rfl rfl rfl (del_c T (ms[j]'hlt) (hfl _ (List.getElem_mem hlt)).1 (hfl _ (List.getElem_mem hlt)).2) rfl rfl ?_
        try simp only [go_sem]
        refine hK13 _ _ ?_
        try clear hK13 K13
        refine AWp.cond _ rfl (fun hc2 => ?_) (fun hc2 => ?_)
        · skip
          try simp only [Bool.not_eq_true'] at hc2
          refine AWp.rs fun K14 hK14 => ?_
          try simp only [go_sem, sNat, fb12, mrow_g (List.getElem?_eq_getElem (show i < R.length by omega))]
          (repeat (with_reducible refine And.intro ?_ ?_; omega))
          refine hK14 _ _ ?_
          try clear hK14 K14
          refine AWp.mask [true, true, true, true] rfl ?_
          simp only [go_sem]
          refine AWp.rk fun K15 hK15 => ?_
          try simp only [go_sem, icast]
          (repeat (with_reducible refine And.intro ?_ ?_; omega))
          refine hK15 _ _ ?_
          try clear hK15 K15
          refine blkQ_n (thenQ_n ?_)
          refine hK10 _ _ ?_
          try clear hK10 K10
          refine AWp.rk fun K16 hK16 => ?_
          try simp only [go_sem, icast]
          (repeat (with_reducible refine And.intro ?_ ?_; omega))
          refine hK16 _ _ ?_
          try clear hK16 K16
          refine thenQ_n ?_
          refine EndS.mk [true, true] [false, false, true, true] [b12] [] [m] [] rfl ?_ ?_
          · (try simp only [go_sem]) <;> try rfl
          refine .e ⟨_, ?_, (i + 1), (j + 1), (R.set i (ms[j]'hlt)), rfl, ?_, ?_, ?_, ?_, ?_, ?_, ?_⟩
          · first | omega | (simp; omega) | (grind)
          · (try simp only [go_sem]) <;> first | exact ⟨rfl⟩ | (constructor; simp; done)
          · (try simp only [go_sem, fb12]) <;> first | exact ⟨rfl⟩ | (constructor; rw [mrow_set2])
          · omega
          · omega
          · simpa using h3
          · rw [take_set1 (by omega), h4, keep_yes hlt (by simpa using hc2)]
          · rw [List.drop_set_of_lt (by omega)]; rw [← List.drop_drop, h5, List.drop_drop]
        · skip
          try simp only [Bool.not_eq_false'] at hc2
          refine AWp.skip ?_
          refine blkQ_n (thenQ_n ?_)
          refine hK10 _ _ ?_
          try clear hK10 K10
          refine AWp.mask [true, true, true, true] rfl ?_
          simp only [go_sem]
          refine AWp.rk fun K17 hK17 => ?_
          try simp only [go_sem, icast]
          (repeat (with_reducible refine And.intro ?_ ?_; omega))
          refine hK17 _ _ ?_
          try clear hK17 K17
          refine thenQ_n ?_
          refine EndS.mk [true, true] [false, false, true, true] [b12] [] [m] [] rfl ?_ ?_
          · (try simp only [go_sem]) <;> try rfl
          refine .e ⟨_, ?_, i, (j + 1), R, rfl, ?_, ?_, ?_, ?_, ?_, ?_, ?_⟩
          · first | omega | (simp; omega) | (grind)
          · (try simp only [go_sem]) <;> first | exact ⟨rfl⟩ | (constructor; simp; done)
          · (try simp only [go_sem, fb12]) <;> first | exact ⟨rfl⟩ | (constructor; rw [mrow_set2])
          · omega
          · omega
          · exact h3
          · rw [h4, keep_no hlt (by simpa using hc2)]
          · rw [← List.drop_drop, h5, List.drop_drop]
      · skip
        try simp only [decide_eq_false_iff_not, Int.not_lt] at hc1
        have hj : j = ms.length := by omega
        have hk : R.take i = keepM ms := by rw [h4, hj, List.take_length]
        have hkl : (keepM ms).length = i := by rw [← hk]; simp; omega
        refine AWp.exit ?_
        refine thenQ_e (thenQ_e (blkQ_e (thenQ_n ?_)))
        refine hK6 _ _ ?_
        try clear hK6 K6
        refine AWp.mask [true, false, true] rfl ?_
        simp only [go_sem]
        refine AWp.rsG 2 fun K18 hK18 => ?_
        simp only [List.take_succ_cons, List.take_zero, List.drop_succ_cons, List.drop_zero]
        try simp only [go_sem]
        refine LV.clr (b := m) (k := 3) (n := ms.length) (c := c) (i := i) (rows := dRows (mailsD R)) rfl rfl rfl rfl rfl rfl rfl (show slI Tryd.prog 90 = some (97, 3, 32) by simp only [go_sem]) (by kernel_rfl) (by simp [getO]) (by rw [dRows_len, mailsD_len, h3]) (by omega) (mails_full R) (by rw [mkS_len]; decide) ?_
        rw [mrow_take, hk]
        refine LV.lvc ?_
        try simp only [go_sem]
        refine hK18 _ _ ?_
        try clear hK18 K18
        refine AWp.rsG 2 fun K19 hK19 => ?_
        simp only [List.take_succ_cons, List.take_zero, List.drop_succ_cons, List.drop_zero]
        try simp only [go_sem]
        refine LV.slcA (b := m) (k := 3) (n := ms.length) (c := c) (i := i) rfl rfl rfl rfl (show slI Tryd.prog 90 = some (97, 3, 32) by simp only [go_sem]) hfit (by omega) ?_
        refine LV.lvc ?_
        try simp only [go_sem]
        refine hK19 _ _ ?_
        try clear hK19 K19
        refine AWp.mask [false, true] rfl ?_
        simp only [go_sem]
        refine AWp.ret ?_
        apply endW_r [] [] [] [] (by (try simp only [go_sem]); rfl)
        · exact ⟨rfl, rfl⟩
        · rw [hkl]; simp [LeA]
end Go.Proofs.YthhfbolhlbgbgaaDoor

namespace Go.Proofs.YthhfbolhlbgbgaaDoor
set_option linter.unusedSimpArgs false
set_option linter.unusedVariables false
def setFl (x : BoxS) (k : Nat) (fl : Int) : BoxS := ⟨x.name, x.next, match x.mails[k]? with | some m => x.mails.set k ⟨m.uid, fl, m.text⟩ | none => x.mails⟩
/-- an entry applied to a box that was found -/
def apB (bs : List BoxS) (i : Nat) (x : Ent) : List BoxS × Int :=
  if x.kind = 2 then addS bs i x.flags x.text
  else match bs[i]? with
    | none => (bs, 0)
    | some y =>
      if x.kind = 4 then (bs.set i ⟨y.name, y.next, keepM y.mails⟩, 0)
      else if idxI (fun m : Mail => decide (m.uid = x.uid)) y.mails < 0 then (bs, 7)
      else if x.kind = 3 then (bs.set i (setFl y (idxI (fun m : Mail => decide (m.uid = x.uid)) y.mails).toNat x.flags), 0)
      else if findI bs x.dest < 0 then (bs, 7)
      else match y.mails[(idxI (fun m : Mail => decide (m.uid = x.uid)) y.mails).toNat]? with
        | none => (bs, 0)
        | some m => addS bs (findI bs x.dest).toNat m.flags m.text
/-- an entry applied -/
def apS (s : St) (x : Ent) : St × Int :=
  if x.kind = 6 then (if s.spool.length = 20 then (s, 5) else (⟨s.boxes, s.spool ++ [x]⟩, 0))
  else if x.kind = 1 then (if 0 ≤ findI s.boxes x.box then (s, 10) else if s.boxes.length = 5 then (s, 5) else (⟨s.boxes ++ [⟨x.box, 1, []⟩], s.spool⟩, 0))
  else if findI s.boxes x.box < 0 then (s, 7)
  else (⟨(apB s.boxes (findI s.boxes x.box).toNat x).1, s.spool⟩, (apB s.boxes (findI s.boxes x.box).toNat x).2)
section
variable {s : St} {x : Ent}
theorem ap_sp5 (h : x.kind = 6) (h2 : s.spool.length = 20) : apS s x = (s, 5) := by rw [apS, if_pos h, if_pos h2]
theorem ap_sp0 (h : x.kind = 6) (h2 : ¬ s.spool.length = 20) : apS s x = (⟨s.boxes, s.spool ++ [x]⟩, 0) := by rw [apS, if_pos h, if_neg h2]
theorem ap_c10 (h : x.kind = 1) (h2 : 0 ≤ findI s.boxes x.box) : apS s x = (s, 10) := by rw [apS, if_neg (by omega), if_pos h, if_pos h2]
theorem ap_c5 (h : x.kind = 1) (h2 : findI s.boxes x.box < 0) (h3 : s.boxes.length = 5) : apS s x = (s, 5) := by rw [apS, if_neg (by omega), if_pos h, if_neg (by omega), if_pos h3]
theorem ap_c0 (h : x.kind = 1) (h2 : findI s.boxes x.box < 0) (h3 : ¬ s.boxes.length = 5) : apS s x = (⟨s.boxes ++ [⟨x.box, 1, []⟩], s.spool⟩, 0) := by rw [apS, if_neg (by omega), if_pos h, if_neg (by omega), if_neg h3]
theorem ap_n7 (h : ¬ x.kind = 6) (h1 : ¬ x.kind = 1) (h2 : findI s.boxes x.box < 0) : apS s x = (s, 7) := by rw [apS, if_neg h, if_neg h1, if_pos h2]
theorem ap_b {i : Nat} (h : ¬ x.kind = 6) (h1 : ¬ x.kind = 1) (h2 : findI s.boxes x.box = (i : Nat)) : apS s x = (⟨(apB s.boxes i x).1, s.spool⟩, (apB s.boxes i x).2) := by rw [apS, if_neg h, if_neg h1, h2, if_neg (by omega)]; rfl
end
section
variable {bs : List BoxS} {x : Ent} {i k j : Nat} {y : BoxS} {m : Mail}
theorem ab_add (h : x.kind = 2) : apB bs i x = addS bs i x.flags x.text := if_pos h
theorem ab_del (h : x.kind = 4) (hy : bs[i]? = some y) : apB bs i x = (bs.set i ⟨y.name, y.next, keepM y.mails⟩, 0) := by rw [apB, if_neg (by omega), hy]; exact if_pos h
theorem ab_7 (h : ¬ x.kind = 2) (h2 : ¬ x.kind = 4) (hy : bs[i]? = some y) (hk : idxI (fun m : Mail => decide (m.uid = x.uid)) y.mails < 0) : apB bs i x = (bs, 7) := by
  rw [apB, if_neg h, hy]; exact (if_neg h2).trans (if_pos hk)
theorem ab_fl (h : x.kind = 3) (hy : bs[i]? = some y) (hk : idxI (fun m : Mail => decide (m.uid = x.uid)) y.mails = (k : Nat)) : apB bs i x = (bs.set i (setFl y k x.flags), 0) := by
  rw [apB, if_neg (by omega), hy]
  show (if _ then _ else _) = _
  rw [if_neg (by omega), hk, if_neg (by omega), if_pos h]; rfl
theorem ab_c7 (h : ¬ x.kind = 2) (h2 : ¬ x.kind = 4) (h3 : ¬ x.kind = 3) (hy : bs[i]? = some y) (hk : idxI (fun m : Mail => decide (m.uid = x.uid)) y.mails = (k : Nat)) (hf : findI bs x.dest < 0) : apB bs i x = (bs, 7) := by
  rw [apB, if_neg h, hy]
  show (if _ then _ else _) = _
  rw [if_neg h2, hk, if_neg (by omega), if_neg h3, if_pos hf]
theorem ab_cp (h : ¬ x.kind = 2) (h2 : ¬ x.kind = 4) (h3 : ¬ x.kind = 3) (hy : bs[i]? = some y) (hk : idxI (fun m : Mail => decide (m.uid = x.uid)) y.mails = (k : Nat)) (hf : findI bs x.dest = (j : Nat)) (hm : y.mails[k]? = some m) : apB bs i x = addS bs j m.flags m.text := by
  rw [apB, if_neg h, hy]
  show (if _ then _ else _) = _
  rw [if_neg h2, hk, if_neg (by omega), if_neg h3, hf, if_neg (by omega), Int.toNat_natCast, hm]; rfl
end
theorem findI_lt : ∀ {l : List BoxS} {t : Tx} {i : Nat}, findI l t = (i : Nat) → i < l.length
  | [], t, i, h => by simp [findI] at h
  | x :: l, t, i, h => by
    rw [findI] at h
    split at h
    · simp; omega
    · split at h
      · omega
      · have := findI_lt (l := l) (t := t) (i := i - 1) (by omega)
        simp; omega
theorem idxI_lt {α : Type} {p : α → Bool} : ∀ {l : List α} {i : Nat}, idxI p l = (i : Nat) → i < l.length
  | [], i, h => by simp [idxI] at h
  | x :: l, i, h => by
    rw [idxI] at h
    split at h
    · simp; omega
    · split at h
      · omega
      · have := idxI_lt (p := p) (l := l) (i := i - 1) (by omega)
        simp; omega
theorem permB (A : List (Nat × Ob)) (l : List BM) (p : Nat × Ob) (F : List (Nat × Ob)) : (A ++ mObjs l (p :: F)).Perm (p :: (A ++ mObjs l F)) := ((mObjs_swap l p F).symm.append_left A).trans List.perm_middle
theorem rot3 (p q r : Nat × Ob) (F : List (Nat × Ob)) : (p :: q :: r :: F).Perm (q :: r :: p :: F) := (List.Perm.swap ..).trans ((List.Perm.swap ..).cons _)
end Go.Proofs.YthhfbolhlbgbgaaDoor

namespace Go.Proofs.YthhfbolhlbgbgaaDoor
set_option linter.unusedSimpArgs false
set_option linter.unusedVariables false
end Go.Proofs.YthhfbolhlbgbgaaDoor

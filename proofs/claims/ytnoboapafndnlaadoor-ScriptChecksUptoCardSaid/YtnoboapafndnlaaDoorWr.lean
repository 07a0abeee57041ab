/- The writer of tokens. -/
import Derived.Test.YtnoboapafndnlaaDoorAvTy
import Derived.Test.YtnoboapafndnlaaDoorCflt
namespace Go.Proofs.YtnoboapafndnlaaDoor
set_option linter.unusedSimpArgs false
set_option linter.unusedVariables false
theorem lenA {α : Type} {Y : List α} {a : α} (h : Y.length + 2 ≤ 4398046511104) : (Y ++ [a]).length + 1 ≤ 4398046511104 := by
  rw [List.length_append]
  show Y.length + 1 + 1 ≤ 4398046511104
  omega
structure Tok where
  kind : Int
  text : Str
  num : Int
def tokD (t : Tok) : List D := [.int .i64 t.kind, .str t.text, .int .i64 t.num]
def toksD (X : List Tok) : List (List D) := X.map tokD
theorem toksD_len (X : List Tok) : (toksD X).length = X.length := by simp [toksD]
attribute [go_sem] toksD_len
def tW (s : Str) : Tok := ⟨1, s, 0⟩
def tG (s : Str) : Tok := ⟨2, s, 0⟩
def tN (n : Int) : Tok := ⟨3, [], n⟩
def tS (s : Str) : Tok := ⟨4, s, 0⟩
def tM (s : Str) : Tok := ⟨5, s, 0⟩
/-- the writer, and what it holds -/
def wob (b u : Nat) (X : List Tok) : Nat × Ob := (b, ⟨1, 1, [[.own u 3 (toksD X)]]⟩)
def WR (b : Nat) (F : List (Nat × Ob)) (L : List Nat) (X : List Tok) : AR → AH → Prop := fun x h => ∃ t, freshT t L ∧ x = .ret (.tup []) ∧ h = ⟨wob b t X :: F, t :: L⟩
attribute [go_sem] wob
@[go_sem] theorem ite_toNat (c : Bool) : (if c = true then (1 : Int) else 0).toNat = if c = true then 1 else 0 := by cases c <;> rfl
@[go_sem] theorem getD2s (x y : Str) (c : Bool) (d : List D) : [[D.str x], [D.str y]].getD (if c = true then 1 else 0) d = [D.str (if c = true then y else x)] := by cases c <;> rfl
def itS : List Str → Bool → List Tok
  | [], _ => []
  | s :: l, f => tM (if f = true then [91] else [44]) :: tS s :: itS l false
def strsT (l : List Str) : List Tok := if l.length = 1 then [tS (l.headD [])] else itS l true ++ [tM [93]]
theorem itS_drop (l : List Str) (k : Nat) (f : Bool) (h : k < l.length) : itS (l.drop k) f = tM (if f = true then [91] else [44]) :: tS (l[k]'h) :: itS (l.drop (k + 1)) false := by
  rw [List.drop_eq_getElem_cons h, itS]
theorem itS_end (l : List Str) (k : Nat) (f : Bool) (h : l.length ≤ k) : itS (l.drop k) f = [] := by rw [List.drop_eq_nil_of_le h, itS]
theorem itS_len (l : List Str) (f : Bool) : (itS l f).length = 2 * l.length := by
  induction l generalizing f with
  | nil => rfl
  | cons s l ih => simp [itS, ih]; omega
set_option maxRecDepth 4000 in
set_option maxHeartbeats 1000000 in
theorem put_c (T : Tbl) (b u : Nat) (X : List Tok) (F : List (Nat × Ob)) (L : List Nat) (k : Int) (s : Str) (hl : X.length + 1 ≤ 4398046511104) : AC Tryd.prog T 109 [.ptr b 1 0 0, .d (.int .i64 k), .d (.str s)] (⟨wob b u X :: F, u :: L⟩) (WR b F L (X ++ [⟨k, s, 0⟩])) := by
  refine ⟨Tryd.call109, ACalls.enterS Tryd.func109 rfl Tryd.ntmps109 rfl fun hb => ?_⟩
  simp only [go_sem, Tryd.results109]
  refine AWp.rk fun K1 hK1 => ?_
  try simp only [go_sem]
  (repeat (with_reducible refine And.intro ?_ ?_; (first | omega | (intro _; omega) | decide | (exact nfB) | (intro hg; refine ⟨hg, ?_⟩; omega) | (simp; done) | (simp; omega))))
  refine DW.app rfl rfl rfl rfl (show slI Tryd.prog 28 = some (108, 3, 32) by simp only [go_sem]) rfl rfl (by simp only [go_sem]) (by first | exact .inl rfl | exact .inr rfl) (by first | omega | (simp only [go_sem] <;> omega) | (simp only [go_sem, List.length_take, List.length_map, List.length_append, List.length_cons, List.length_nil] <;> omega) | (simp <;> omega)) (by first | omega | (simp only [go_sem] <;> omega) | (simp only [go_sem, List.length_take, List.length_map, List.length_append, List.length_cons, List.length_nil] <;> omega) | (simp <;> omega)) fun t1 ft1 => ?_
  try simp only [freshT] at ft1
  try simp only [go_sem, ft1]
  (repeat (with_reducible refine And.intro ?_ ?_; (first | omega | (intro _; omega) | decide | (exact nfB) | (intro hg; refine ⟨hg, ?_⟩; omega) | (simp; done) | (simp; omega))))
  refine hK1 _ _ ?_
  try clear hK1 K1
  apply endW_n [] [] [] [] (by (try simp only [go_sem, ft1]); rfl)
  · refine ⟨t1, by simp only [go_sem, ft1], rfl, ?_⟩
    (simp only [go_sem, ft1]) <;> (simp [toksD, tokD])
  · simp only [LeA, LeL]
set_option maxRecDepth 4000 in
set_option maxHeartbeats 1000000 in
theorem flag_c (T : Tbl) (c : Bool) : PC Tryd.prog T 176 [.d (.bool c)] (.d (.int .i64 (if c = true then 1 else 0))) := by
  refine ⟨Tryd.call176, PCall.enterS Tryd.func176 rfl Tryd.ntmps176 rfl fun hb => ?_⟩
  simp only [go_sem, Tryd.results176]
  refine AWp.rs fun K1 hK1 => ?_
  try simp only [go_sem]
  (repeat (with_reducible refine And.intro ?_ ?_; (first | omega | (intro _; omega) | decide | (exact nfB) | (intro hg; refine ⟨hg, ?_⟩; omega) | (simp; done) | (simp; omega))))
  refine hK1 _ _ ?_
  try clear hK1 K1
  refine AWp.seq fun K2 hK2 => ?_
  refine AWp.rs fun K3 hK3 => ?_
  try simp only [go_sem]
  (repeat (with_reducible refine And.intro ?_ ?_; (first | omega | (intro _; omega) | decide | (exact nfB) | (intro hg; refine ⟨hg, ?_⟩; omega) | (simp; done) | (simp; omega))))
  refine hK3 _ _ ?_
  try clear hK3 K3
  refine AWp.cond _ rfl (fun hc0 => ?_) (fun hc0 => ?_)
  · skip
    try simp only [decide_eq_true_eq, decide_eq_false_iff_not, Bool.not_eq_true', Bool.not_eq_false', Bool.and_eq_true, Bool.or_eq_true, Bool.and_eq_false_iff, Bool.or_eq_false_iff, Int.not_lt, Int.not_le, beq_iff_eq, beq_eq_false_iff_ne, ne_eq, Bool.not_eq_true, Bool.not_eq_false] at hc0
    refine AWp.rs fun K4 hK4 => ?_
    try simp only [go_sem]
    (repeat (with_reducible refine And.intro ?_ ?_; (first | omega | (intro _; omega) | decide | (exact nfB) | (intro hg; refine ⟨hg, ?_⟩; omega) | (simp; done) | (simp; omega))))
    refine hK4 _ _ ?_
    try clear hK4 K4
    refine AWp.ret ?_
    try simp only [go_sem]
    simp [hc0]
  · skip
    try simp only [decide_eq_true_eq, decide_eq_false_iff_not, Bool.not_eq_true', Bool.not_eq_false', Bool.and_eq_true, Bool.or_eq_true, Bool.and_eq_false_iff, Bool.or_eq_false_iff, Int.not_lt, Int.not_le, beq_iff_eq, beq_eq_false_iff_ne, ne_eq, Bool.not_eq_true, Bool.not_eq_false] at hc0
    refine AWp.skip ?_
    refine thenQ_n ?_
    refine hK2 _ _ ?_
    try clear hK2 K2
    refine AWp.rs fun K5 hK5 => ?_
    try simp only [go_sem]
    (repeat (with_reducible refine And.intro ?_ ?_; (first | omega | (intro _; omega) | decide | (exact nfB) | (intro hg; refine ⟨hg, ?_⟩; omega) | (simp; done) | (simp; omega))))
    refine hK5 _ _ ?_
    try clear hK5 K5
    refine AWp.ret ?_
    try simp only [go_sem]
    simp [hc0]
set_option maxRecDepth 4000 in
set_option maxHeartbeats 1000000 in
theorem list_c (T : Tbl) (b u : Nat) (X : List Tok) (F : List (Nat × Ob)) (L : List Nat) (l : List Str) (hl : X.length + (strsT l).length ≤ 4398046511104) : AC Tryd.prog T 111 [.ptr b 1 0 0, .d (.slc 1 (l.map strD))] (⟨wob b u X :: F, u :: L⟩) (WR b F L (X ++ strsT l)) := by
  refine ⟨Tryd.call111, ACalls.enterS Tryd.func111 rfl Tryd.ntmps111 rfl fun hb => ?_⟩
  simp only [go_sem, Tryd.results111]
  refine AWp.seq fun K1 hK1 => ?_
  refine AWp.rs fun K2 hK2 => ?_
  try simp only [go_sem, wob]
  (repeat (with_reducible refine And.intro ?_ ?_; (first | omega | (intro _; omega) | decide | (exact nfB) | (intro hg; refine ⟨hg, ?_⟩; omega) | (split <;> omega) | (simp; done) | (simp; omega))))
  refine hK2 _ _ ?_
  try clear hK2 K2
  refine AWp.cond _ rfl (fun hc0 => ?_) (fun hc0 => ?_)
  · skip
    try simp only [decide_eq_true_eq, decide_eq_false_iff_not, Bool.not_eq_true', Bool.not_eq_false', Bool.and_eq_true, Bool.or_eq_true, Bool.and_eq_false_iff, Bool.or_eq_false_iff, Int.not_lt, Int.not_le, beq_iff_eq, beq_eq_false_iff_ne, ne_eq, Bool.not_eq_true, Bool.not_eq_false] at hc0
    have h0 : 0 < l.length := by omega
    have hl2 : (strsT l).length = 1 := by rw [strsT, if_pos (by omega)]; rfl
    refine AWp.rs fun K3 hK3 => ?_
    try simp only [go_sem, wob, map_getD strD _ _ _ h0]
    (repeat (with_reducible refine And.intro ?_ ?_; (first | omega | (intro _; omega) | decide | (exact nfB) | (intro hg; refine ⟨hg, ?_⟩; omega) | (split <;> omega) | (simp; done) | (simp; omega))))
    refine DW.acp [b] [u] rfl rfl rfl rfl (by (try simp only [go_sem, wob, map_getD strD _ _ _ h0]); rfl) rfl (put_c T _ _ _ _ _ _ _ (by (try simp only [List.length_append, List.length_cons, List.length_nil]); omega)) ?_
    rintro _ _ ⟨W4, fW4, rfl, rfl⟩
    try simp only [freshT, freshL] at fW4
    try simp only [go_sem, wob, map_getD strD _ _ _ h0, fW4]
    (repeat (with_reducible refine And.intro ?_ ?_; (first | omega | (intro _; omega) | decide | (exact nfB) | (intro hg; refine ⟨hg, ?_⟩; omega) | (split <;> omega) | (simp; done) | (simp; omega))))
    refine hK3 _ _ ?_
    try clear hK3 K3
    refine AWp.mask [] rfl ?_
    simp only [go_sem]
    refine AWp.ret ?_
    apply endW_r [] [] [b] [W4] (by (try simp only [go_sem, wob, map_getD strD _ _ _ h0, fW4]); rfl)
    · refine ⟨W4, by simp only [go_sem, wob, map_getD strD _ _ _ h0, fW4], rfl, ?_⟩
      rw [show _ = _ from (show X ++ strsT l = X ++ [⟨4, l[0], 0⟩] by rw [strsT, if_pos (by omega)]; cases l; simp at h0; rfl)]
      (try simp only [go_sem, wob, map_getD strD _ _ _ h0, fW4]) <;> rfl
    · simp only [LeA, LeL]
  · skip
    try simp only [decide_eq_true_eq, decide_eq_false_iff_not, Bool.not_eq_true', Bool.not_eq_false', Bool.and_eq_true, Bool.or_eq_true, Bool.and_eq_false_iff, Bool.or_eq_false_iff, Int.not_lt, Int.not_le, beq_iff_eq, beq_eq_false_iff_ne, ne_eq, Bool.not_eq_true, Bool.not_eq_false] at hc0
    have hl2 : (strsT l).length = 2 * l.length + 1 := by rw [strsT, if_neg (by omega)]; simp [itS_len]
    refine AWp.skip ?_
    refine thenQ_n ?_
    refine hK1 _ _ ?_
    try clear hK1 K1
    refine AWp.seq fun K5 hK5 => ?_
    refine AWp.rs fun K6 hK6 => ?_
    try simp only [go_sem, wob]
    (repeat (with_reducible refine And.intro ?_ ?_; (first | omega | (intro _; omega) | decide | (exact nfB) | (intro hg; refine ⟨hg, ?_⟩; omega) | (split <;> omega) | (simp; done) | (simp; omega))))
    refine hK6 _ _ ?_
    try clear hK6 K6
    refine AWp.mask [true, false, false, false, false, true, true, true] rfl ?_
    simp only [go_sem]
    refine AWp.block ?_
    refine AWp.loopS [true, true, true] [false, false, false, true] (fun n lc hc => ∃ (k v : Nat) (Y : List Tok), n = l.length - k ∧ EqS lc [(16, .d (.int .i64 k))] ∧ EqS hc (⟨wob b v Y :: F, v :: L⟩) ∧ (k ≤ l.length) ∧ (Y ++ itS (l.drop k) (decide (k = 0)) = X ++ itS l true)) rfl ?_ ?_
    · refine ⟨_, 0, u, X, rfl, ?_, ?_, ?_, ?_⟩
      · (try simp only [go_sem, wob]) <;> first | exact ⟨rfl⟩ | (constructor; simp; done)
      · (try simp only [go_sem, wob]) <;> first | exact ⟨rfl⟩ | (constructor; simp; done)
      all_goals (first | omega | rfl | (simp; done) | (simp; omega) | assumption)
    · rintro _ _ _ ⟨k, v, Y, rfl, ⟨rfl⟩, ⟨rfl⟩, hk, hY⟩
      have hYl := congrArg List.length hY
      simp only [List.length_append, itS_len, List.length_drop] at hYl
      simp only [go_sem]
      refine AWp.rs fun K7 hK7 => ?_
      try simp only [go_sem, wob]
      (repeat (with_reducible refine And.intro ?_ ?_; (first | omega | (intro _; omega) | decide | (exact nfB) | (intro hg; refine ⟨hg, ?_⟩; omega) | (split <;> omega) | (simp; done) | (simp; omega))))
      refine hK7 _ _ ?_
      try clear hK7 K7
      refine AWp.seq fun K8 hK8 => ?_
      refine AWp.cond _ rfl (fun hc1 => ?_) (fun hc1 => ?_)
      · skip
        try simp only [decide_eq_true_eq, decide_eq_false_iff_not, Bool.not_eq_true', Bool.not_eq_false', Bool.and_eq_true, Bool.or_eq_true, Bool.and_eq_false_iff, Bool.or_eq_false_iff, Int.not_lt, Int.not_le, beq_iff_eq, beq_eq_false_iff_ne, ne_eq, Bool.not_eq_true, Bool.not_eq_false] at hc1
        have hlt : k < l.length := by omega
        have e1 : Y.length + 2 ≤ 4398046511104 := by omega
        refine AWp.skip ?_
        refine thenQ_n ?_
        refine hK8 _ _ ?_
        try clear hK8 K8
        refine AWp.seq fun K9 hK9 => ?_
        refine AWp.block ?_
        refine AWp.rs fun K10 hK10 => ?_
        try simp only [go_sem, wob, map_getD strD _ _ _ hlt]
        (repeat (with_reducible refine And.intro ?_ ?_; (first | omega | (intro _; omega) | decide | (exact nfB) | (intro hg; refine ⟨hg, ?_⟩; omega) | (split <;> omega) | (simp; done) | (simp; omega))))
        refine hK10 _ _ ?_
        try clear hK10 K10
        refine AWp.mask [true, true, true, true, true, true] rfl ?_
        simp only [go_sem]
        refine AWp.rs fun K11 hK11 => ?_
        try simp only [go_sem, wob, map_getD strD _ _ _ hlt]
        (repeat (with_reducible refine And.intro ?_ ?_; (first | omega | (intro _; omega) | decide | (exact nfB) | (intro hg; refine ⟨hg, ?_⟩; omega) | (split <;> omega) | (simp; done) | (simp; omega))))
        refine DW.pcr rfl rfl rfl rfl (flag_c T _) rfl rfl ?_
        try simp only [go_sem, wob, map_getD strD _ _ _ hlt]
        (repeat (with_reducible refine And.intro ?_ ?_; (first | omega | (intro _; omega) | decide | (exact nfB) | (intro hg; refine ⟨hg, ?_⟩; omega) | (split <;> omega) | (simp; done) | (simp; omega))))
        refine DW.acp [b] [v] rfl rfl rfl rfl (by (try simp only [go_sem, wob, map_getD strD _ _ _ hlt]); rfl) rfl (put_c T _ _ _ _ _ _ _ (by (try simp only [List.length_append, List.length_cons, List.length_nil]); omega)) ?_
        rintro _ _ ⟨W12, fW12, rfl, rfl⟩
        try simp only [freshT, freshL] at fW12
        try simp only [go_sem, wob, map_getD strD _ _ _ hlt, fW12]
        (repeat (with_reducible refine And.intro ?_ ?_; (first | omega | (intro _; omega) | decide | (exact nfB) | (intro hg; refine ⟨hg, ?_⟩; omega) | (split <;> omega) | (simp; done) | (simp; omega))))
        refine hK11 _ _ ?_
        try clear hK11 K11
        refine AWp.mask [true, false, true, true, true, true] rfl ?_
        simp only [go_sem]
        refine AWp.rk fun K13 hK13 => ?_
        try simp only [go_sem, wob, map_getD strD _ _ _ hlt, fW12]
        (repeat (with_reducible refine And.intro ?_ ?_; (first | omega | (intro _; omega) | decide | (exact nfB) | (intro hg; refine ⟨hg, ?_⟩; omega) | (split <;> omega) | (simp; done) | (simp; omega))))
        refine DW.acp [b] [W12] rfl rfl rfl rfl (by (try simp only [go_sem, wob, map_getD strD _ _ _ hlt, fW12]); rfl) rfl (put_c T _ _ _ _ _ _ _ (lenA e1)) ?_
        rintro _ _ ⟨W14, fW14, rfl, rfl⟩
        try simp only [freshT, freshL] at fW14
        try simp only [go_sem, wob, map_getD strD _ _ _ hlt, fW12, fW14]
        (repeat (with_reducible refine And.intro ?_ ?_; (first | omega | (intro _; omega) | decide | (exact nfB) | (intro hg; refine ⟨hg, ?_⟩; omega) | (split <;> omega) | (simp; done) | (simp; omega))))
        refine hK13 _ _ ?_
        try clear hK13 K13
        refine blkQ_n (thenQ_n ?_)
        refine hK9 _ _ ?_
        try clear hK9 K9
        refine AWp.mask [true, false, true, true, true] rfl ?_
        simp only [go_sem]
        refine AWp.rk fun K15 hK15 => ?_
        try simp only [go_sem, wob, map_getD strD _ _ _ hlt, fW12, fW14]
        (repeat (with_reducible refine And.intro ?_ ?_; (first | omega | (intro _; omega) | decide | (exact nfB) | (intro hg; refine ⟨hg, ?_⟩; omega) | (split <;> omega) | (simp; done) | (simp; omega))))
        refine hK15 _ _ ?_
        try clear hK15 K15
        refine thenQ_n ?_
        refine EndS.mkr [true, true, true] [false, false, false, true] rfl ?_ ?_
        · (try simp only [go_sem, wob, map_getD strD _ _ _ hlt, fW12, fW14]) <;> try rfl
        refine .e ⟨_, ?_, k + 1, W14, Y ++ [⟨5, if decide ((k : Int) = 0) = true then [91] else [44], 0⟩] ++ [⟨4, l[k], 0⟩], rfl, ?_, ?_, ?_, ?_⟩
        · first | omega | (simp; omega) | (grind)
        · (try simp only [go_sem, wob, map_getD strD _ _ _ hlt, fW12, fW14]) <;> first | exact ⟨rfl⟩ | (constructor; simp; done)
        · (try simp only [go_sem, wob, map_getD strD _ _ _ hlt, fW12, fW14]) <;> first | exact ⟨rfl⟩ | (constructor; simp; done)
        · omega
        · rw [← hY, itS_drop _ _ _ hlt]; by_cases hk0 : k = 0 <;> simp [hk0, tM, tS]
      · skip
        try simp only [decide_eq_true_eq, decide_eq_false_iff_not, Bool.not_eq_true', Bool.not_eq_false', Bool.and_eq_true, Bool.or_eq_true, Bool.and_eq_false_iff, Bool.or_eq_false_iff, Int.not_lt, Int.not_le, beq_iff_eq, beq_eq_false_iff_ne, ne_eq, Bool.not_eq_true, Bool.not_eq_false] at hc1
        refine AWp.exit ?_
        refine thenQ_e (thenQ_e (blkQ_e (thenQ_n ?_)))
        refine hK5 _ _ ?_
        try clear hK5 K5
        refine AWp.mask [true] rfl ?_
        simp only [go_sem]
        refine AWp.rk fun K16 hK16 => ?_
        try simp only [go_sem, wob]
        (repeat (with_reducible refine And.intro ?_ ?_; (first | omega | (intro _; omega) | decide | (exact nfB) | (intro hg; refine ⟨hg, ?_⟩; omega) | (split <;> omega) | (simp; done) | (simp; omega))))
        refine DW.acp [b] [v] rfl rfl rfl rfl (by (try simp only [go_sem, wob]); rfl) rfl (put_c T _ _ _ _ _ _ _ (by (try simp only [List.length_append, List.length_cons, List.length_nil]); omega)) ?_
        rintro _ _ ⟨W17, fW17, rfl, rfl⟩
        try simp only [freshT, freshL] at fW17
        try simp only [go_sem, wob, fW17]
        (repeat (with_reducible refine And.intro ?_ ?_; (first | omega | (intro _; omega) | decide | (exact nfB) | (intro hg; refine ⟨hg, ?_⟩; omega) | (split <;> omega) | (simp; done) | (simp; omega))))
        refine hK16 _ _ ?_
        try clear hK16 K16
        apply endW_n [] [] [b] [W17] (by (try simp only [go_sem, wob, fW17]); rfl)
        · refine ⟨W17, by simp only [go_sem, wob, fW17], rfl, ?_⟩
          rw [show _ = _ from (show X ++ strsT l = Y ++ [⟨5, [93], 0⟩] by rw [strsT, if_neg (by omega), ← List.append_assoc, ← hY, itS_end _ _ _ (by omega), List.append_nil]; rfl)]
          (try simp only [go_sem, wob, fW17]) <;> rfl
        · simp only [LeA, LeL]
def cmdWs : List Str := [[], [114, 101, 113, 117, 105, 114, 101], [105, 102], [107, 101, 101, 112], [100, 105, 115, 99, 97, 114, 100], [102, 105, 108, 101, 105, 110, 116, 111], [114, 101, 100, 105, 114, 101, 99, 116], [114, 101, 106, 101, 99, 116], [115, 101, 116, 102, 108, 97, 103], [97, 100, 100, 102, 108, 97, 103], [115, 116, 111, 112]]
theorem cmdWs_len : cmdWs.length = 11 := rfl
def tstWs : List Str := [[], [116, 114, 117, 101], [102, 97, 108, 115, 101], [110, 111, 116], [97, 108, 108, 111, 102], [97, 110, 121, 111, 102], [104, 101, 97, 100, 101, 114], [97, 100, 100, 114, 101, 115, 115], [101, 110, 118, 101, 108, 111, 112, 101], [101, 120, 105, 115, 116, 115], [115, 105, 122, 101]]
theorem tstWs_len : tstWs.length = 11 := rfl
def matWs : List Str := [[], [105, 115], [99, 111, 110, 116, 97, 105, 110, 115], [109, 97, 116, 99, 104, 101, 115]]
theorem matWs_len : matWs.length = 4 := rfl
def parWs : List Str := [[], [97, 108, 108], [108, 111, 99, 97, 108, 112, 97, 114, 116], [100, 111, 109, 97, 105, 110]]
theorem parWs_len : parWs.length = 4 := rfl
def tabW (ws : List Str) (k : Int) : Str := ws.getD k.toNat []
theorem tab_at (ws : List Str) (k : Int) (h0 : 0 ≤ k) (h : k < ws.length) : List.take 1 (List.drop k.toNat (List.map D.str ws)) = [D.str (tabW ws k)] := by
  have hk : k.toNat < ws.length := by omega
  rw [List.drop_eq_getElem_cons (by simpa using hk)]
  simp [tabW, List.getD, hk]
structure Tabs (T : Tbl) : Prop where
  cmds : T 0 = cmdWs.map D.str
  tests : T 1 = tstWs.map D.str
  mats : T 3 = matWs.map D.str
  parts : T 2 = parWs.map D.str
mutual
def tT : Tst → List Tok
  | .mk k m p n ks o lim kids => tW (tabW tstWs k) :: (if k = 3 then tK kids else if inB k 4 5 = true then tTL kids true ++ [tM [41]] else if inB k 6 8 = true then (if k = 6 then [] else [tG (tabW parWs p)]) ++ tG (tabW matWs m) :: (strsT n ++ strsT ks) else if k = 9 then strsT n else if k = 10 then [tG (if o = true then [111, 118, 101, 114] else [117, 110, 100, 101, 114]), tN lim] else [])
def tK : List Tst → List Tok
  | [] => []
  | x :: _ => tT x
def tTL : List Tst → Bool → List Tok
  | [], _ => []
  | x :: l, f => tM (if f = true then [40] else [44]) :: (tT x ++ tTL l false)
end
theorem tT_eq (t : Tst) : tT t = tW (tabW tstWs t.kind) :: (if t.kind = 3 then tK t.kids else if inB t.kind 4 5 = true then tTL t.kids true ++ [tM [41]] else if inB t.kind 6 8 = true then (if t.kind = 6 then [] else [tG (tabW parWs t.part)]) ++ tG (tabW matWs t.mat) :: (strsT t.names ++ strsT t.keys) else if t.kind = 9 then strsT t.names else if t.kind = 10 then [tG (if t.over = true then [111, 118, 101, 114] else [117, 110, 100, 101, 114]), tN t.limit] else []) := by
  cases t; rw [tT]; rfl
theorem tTL_drop (l : List Tst) (k : Nat) (f : Bool) (h : k < l.length) : tTL (l.drop k) f = tM (if f = true then [40] else [44]) :: (tT (l[k]'h) ++ tTL (l.drop (k + 1)) false) := by
  rw [List.drop_eq_getElem_cons h, tTL]
theorem tTL_end (l : List Tst) (k : Nat) (f : Bool) (h : l.length ≤ k) : tTL (l.drop k) f = [] := by rw [List.drop_eq_nil_of_le h, tTL]
theorem tK_eq (t : Tst) (h : 0 < t.kids.length) : tK t.kids = tT (t.kids[0]'h) := by
  obtain ⟨k, m, p, n, ks, o, lim, kids⟩ := t
  match kids, h with
  | x :: l, h => simp only [Tst.kids, tK]; rfl
theorem tFL_mem (l : List Tst) (d : Int) (h : tFL l d = 0) : ∀ x ∈ l, tF x d = 0 := by
  induction l with
  | nil => simp
  | cons y l ih =>
    rw [tFL] at h
    intro x hx
    by_cases h1 : tF y d = 0
    · rw [if_pos h1] at h
      rcases List.mem_cons.1 hx with rfl | hx
      · exact h1
      · exact ih h x hx
    · rw [if_neg h1] at h; exact absurd h h1
theorem tF_ok {t : Tst} {d : Int} (h : tF t d = 0) : inB t.kind 1 10 = true ∧ okS t = true ∧ ∀ x ∈ t.kids, tF x (d + 1) = 0 := by
  rw [tF_eq] at h
  by_cases h1 : inB t.kind 1 10 = false
  · rw [if_pos h1] at h; omega
  · rw [if_neg h1] at h
    by_cases h2 : 6 < d
    · rw [if_pos h2] at h; omega
    · rw [if_neg h2] at h
      by_cases h3 : okS t = false
      · rw [if_pos h3] at h; omega
      · rw [if_neg h3] at h
        exact ⟨by simpa using h1, by simpa using h3, tFL_mem _ _ h⟩
theorem strsT_len (l : List Str) : (strsT l).length ≤ 2 * l.length + 1 := by
  unfold strsT
  split
  · simp
  · simp [itS_len]
end Go.Proofs.YtnoboapafndnlaaDoor

/- How scripts are shown. -/
import Derived.Test.YtnoboapafndnlaaDoorWr3
namespace Go.Proofs.YtnoboapafndnlaaDoor
set_option linter.unusedSimpArgs false
set_option linter.unusedVariables false
theorem tab_get (ws : List Str) (k : Int) (h0 : 0 ≤ k) (h : k < ws.length) : (ws.map fun s => [D.str s]).getD k.toNat [] = [D.str (tabW ws k)] := by
  have hk : k.toNat < ws.length := by omega
  rw [map_getD _ _ _ _ hk]
  simp [tabW, List.getD, hk]
set_option maxRecDepth 4000 in
set_option maxHeartbeats 1000000 in
theorem commandWord_c (T : Tbl) (k : Int) (h0 : 0 ≤ k) (h1 : k < 11) : PC Tryd.prog T 114 [.d (.int .i64 k)] (.d (.str (tabW cmdWs k))) := by
  refine ⟨Tryd.call114, PCall.enterS Tryd.func114 rfl Tryd.ntmps114 rfl fun hb => ?_⟩
  have hw : List.getD [[D.str []], [D.str [114, 101, 113, 117, 105, 114, 101]], [D.str [105, 102]], [D.str [107, 101, 101, 112]], [D.str [100, 105, 115, 99, 97, 114, 100]], [D.str [102, 105, 108, 101, 105, 110, 116, 111]], [D.str [114, 101, 100, 105, 114, 101, 99, 116]], [D.str [114, 101, 106, 101, 99, 116]], [D.str [115, 101, 116, 102, 108, 97, 103]], [D.str [97, 100, 100, 102, 108, 97, 103]], [D.str [115, 116, 111, 112]]] k.toNat [] = [D.str (tabW cmdWs k)] := tab_get cmdWs k h0 h1
  simp only [go_sem, Tryd.results114]
  refine AWp.rs fun K1 hK1 => ?_
  try simp only [go_sem, hw]
  (repeat (with_reducible refine And.intro ?_ ?_; (first | omega | (intro _; omega) | decide | (exact nfB) | (intro hg; refine ⟨hg, ?_⟩; omega) | (simp; done) | (simp; omega))))
  refine hK1 _ _ ?_
  try clear hK1 K1
  refine AWp.rs fun K2 hK2 => ?_
  try simp only [go_sem, hw]
  (repeat (with_reducible refine And.intro ?_ ?_; (first | omega | (intro _; omega) | decide | (exact nfB) | (intro hg; refine ⟨hg, ?_⟩; omega) | (simp; done) | (simp; omega))))
  refine hK2 _ _ ?_
  try clear hK2 K2
  refine AWp.mask [false, true] rfl ?_
  simp only [go_sem]
  refine AWp.ret ?_
  try simp only [go_sem, hw]
  skip
set_option maxRecDepth 4000 in
set_option maxHeartbeats 1000000 in
theorem testWord_c (T : Tbl) (k : Int) (h0 : 0 ≤ k) (h1 : k < 11) : PC Tryd.prog T 220 [.d (.int .i64 k)] (.d (.str (tabW tstWs k))) := by
  refine ⟨Tryd.call220, PCall.enterS Tryd.func220 rfl Tryd.ntmps220 rfl fun hb => ?_⟩
  have hw : List.getD [[D.str []], [D.str [116, 114, 117, 101]], [D.str [102, 97, 108, 115, 101]], [D.str [110, 111, 116]], [D.str [97, 108, 108, 111, 102]], [D.str [97, 110, 121, 111, 102]], [D.str [104, 101, 97, 100, 101, 114]], [D.str [97, 100, 100, 114, 101, 115, 115]], [D.str [101, 110, 118, 101, 108, 111, 112, 101]], [D.str [101, 120, 105, 115, 116, 115]], [D.str [115, 105, 122, 101]]] k.toNat [] = [D.str (tabW tstWs k)] := tab_get tstWs k h0 h1
  simp only [go_sem, Tryd.results220]
  refine AWp.rs fun K1 hK1 => ?_
  try simp only [go_sem, hw]
  (repeat (with_reducible refine And.intro ?_ ?_; (first | omega | (intro _; omega) | decide | (exact nfB) | (intro hg; refine ⟨hg, ?_⟩; omega) | (simp; done) | (simp; omega))))
  refine hK1 _ _ ?_
  try clear hK1 K1
  refine AWp.rs fun K2 hK2 => ?_
  try simp only [go_sem, hw]
  (repeat (with_reducible refine And.intro ?_ ?_; (first | omega | (intro _; omega) | decide | (exact nfB) | (intro hg; refine ⟨hg, ?_⟩; omega) | (simp; done) | (simp; omega))))
  refine hK2 _ _ ?_
  try clear hK2 K2
  refine AWp.mask [false, true] rfl ?_
  simp only [go_sem]
  refine AWp.ret ?_
  try simp only [go_sem, hw]
  skip
set_option maxRecDepth 4000 in
set_option maxHeartbeats 1000000 in
theorem matchWord_c (T : Tbl) (k : Int) (h0 : 0 ≤ k) (h1 : k < 4) : PC Tryd.prog T 222 [.d (.int .i64 k)] (.d (.str (tabW matWs k))) := by
  refine ⟨Tryd.call222, PCall.enterS Tryd.func222 rfl Tryd.ntmps222 rfl fun hb => ?_⟩
  have hw : List.getD [[D.str []], [D.str [105, 115]], [D.str [99, 111, 110, 116, 97, 105, 110, 115]], [D.str [109, 97, 116, 99, 104, 101, 115]]] k.toNat [] = [D.str (tabW matWs k)] := tab_get matWs k h0 h1
  simp only [go_sem, Tryd.results222]
  refine AWp.rs fun K1 hK1 => ?_
  try simp only [go_sem, hw]
  (repeat (with_reducible refine And.intro ?_ ?_; (first | omega | (intro _; omega) | decide | (exact nfB) | (intro hg; refine ⟨hg, ?_⟩; omega) | (simp; done) | (simp; omega))))
  refine hK1 _ _ ?_
  try clear hK1 K1
  refine AWp.rs fun K2 hK2 => ?_
  try simp only [go_sem, hw]
  (repeat (with_reducible refine And.intro ?_ ?_; (first | omega | (intro _; omega) | decide | (exact nfB) | (intro hg; refine ⟨hg, ?_⟩; omega) | (simp; done) | (simp; omega))))
  refine hK2 _ _ ?_
  try clear hK2 K2
  refine AWp.mask [false, true] rfl ?_
  simp only [go_sem]
  refine AWp.ret ?_
  try simp only [go_sem, hw]
  skip
set_option maxRecDepth 4000 in
set_option maxHeartbeats 1000000 in
theorem partWord_c (T : Tbl) (k : Int) (h0 : 0 ≤ k) (h1 : k < 4) : PC Tryd.prog T 221 [.d (.int .i64 k)] (.d (.str (tabW parWs k))) := by
  refine ⟨Tryd.call221, PCall.enterS Tryd.func221 rfl Tryd.ntmps221 rfl fun hb => ?_⟩
  have hw : List.getD [[D.str []], [D.str [97, 108, 108]], [D.str [108, 111, 99, 97, 108, 112, 97, 114, 116]], [D.str [100, 111, 109, 97, 105, 110]]] k.toNat [] = [D.str (tabW parWs k)] := tab_get parWs k h0 h1
  simp only [go_sem, Tryd.results221]
  refine AWp.rs fun K1 hK1 => ?_
  try simp only [go_sem, hw]
  (repeat (with_reducible refine And.intro ?_ ?_; (first | omega | (intro _; omega) | decide | (exact nfB) | (intro hg; refine ⟨hg, ?_⟩; omega) | (simp; done) | (simp; omega))))
  refine hK1 _ _ ?_
  try clear hK1 K1
  refine AWp.rs fun K2 hK2 => ?_
  try simp only [go_sem, hw]
  (repeat (with_reducible refine And.intro ?_ ?_; (first | omega | (intro _; omega) | decide | (exact nfB) | (intro hg; refine ⟨hg, ?_⟩; omega) | (simp; done) | (simp; omega))))
  refine hK2 _ _ ?_
  try clear hK2 K2
  refine AWp.mask [false, true] rfl ?_
  simp only [go_sem]
  refine AWp.ret ?_
  try simp only [go_sem, hw]
  skip
set_option maxRecDepth 4000 in
set_option maxHeartbeats 1000000 in
theorem tok_c (T : Tbl) (k : Int) (s : Str) : PC Tryd.prog T 113 [.d (.int .i64 k), .d (.str s)] (.agg [.d (.int .i64 k), .d (.str s), .d (.int .i64 0)]) := by
  refine ⟨Tryd.call113, PCall.enterS Tryd.func113 rfl Tryd.ntmps113 rfl fun hb => ?_⟩
  simp only [go_sem, Tryd.results113]
  refine AWp.rs fun K1 hK1 => ?_
  try simp only [go_sem]
  (repeat (with_reducible refine And.intro ?_ ?_; (first | omega | (intro _; omega) | decide | (exact nfB) | (intro hg; refine ⟨hg, ?_⟩; omega) | (simp; done) | (simp; omega))))
  intro b2 fb2
  try simp only [freshL] at fb2
  try simp only [go_sem, fb2]
  (repeat (with_reducible refine And.intro ?_ ?_; (first | omega | (intro _; omega) | decide | (exact nfB) | (intro hg; refine ⟨hg, ?_⟩; omega) | (simp; done) | (simp; omega))))
  refine hK1 _ _ ?_
  try clear hK1 K1
  refine AWp.rs fun K3 hK3 => ?_
  try simp only [go_sem, fb2]
  (repeat (with_reducible refine And.intro ?_ ?_; (first | omega | (intro _; omega) | decide | (exact nfB) | (intro hg; refine ⟨hg, ?_⟩; omega) | (simp; done) | (simp; omega))))
  refine hK3 _ _ ?_
  try clear hK3 K3
  refine AWp.mask [false, false, true] rfl ?_
  simp only [go_sem]
  refine AWp.ret ?_
  try simp only [go_sem, fb2]
  skip
def itR : List Str → Bool → List Tok
  | [], _ => []
  | s :: l, f => (if f = true then [] else [tM [44]]) ++ tS s :: itR l false
theorem itR_drop (l : List Str) (k : Nat) (f : Bool) (h : k < l.length) : itR (l.drop k) f = (if f = true then [] else [tM [44]]) ++ tS (l[k]'h) :: itR (l.drop (k + 1)) false := by
  rw [List.drop_eq_getElem_cons h, itR]
theorem itR_end (l : List Str) (k : Nat) (f : Bool) (h : l.length ≤ k) : itR (l.drop k) f = [] := by rw [List.drop_eq_nil_of_le h, itR]
theorem itR_f (l : List Str) : itR l false = itS l false := by
  induction l with
  | nil => rfl
  | cons s l ih => simp [itR, itS, ih]
theorem itR_t (l : List Str) (h : 0 < l.length) : tM [91] :: itR l true = itS l true := by
  cases l with
  | nil => simp at h
  | cons s l => simp [itR, itS, itR_f]
theorem itR_len (l : List Str) (f : Bool) : (itR l f).length ≤ 2 * l.length := by
  induction l generalizing f with
  | nil => simp [itR]
  | cons s l ih => cases f <;> simp [itR] <;> have := ih false <;> omega
set_option maxRecDepth 4000 in
set_option maxHeartbeats 1000000 in
theorem strsShown_c (T : Tbl) (l : List Str) (h0 : 0 < l.length) (hl : (strsT l).length ≤ 4398046511104) : PC Tryd.prog T 180 [.d (.slc 1 (l.map strD))] (.d (.slc 3 (toksD (strsT l)))) := by
  refine ⟨Tryd.call180, PCall.enterS Tryd.func180 rfl Tryd.ntmps180 rfl fun hb => ?_⟩
  simp only [go_sem, Tryd.results180]
  refine AWp.rs fun K1 hK1 => ?_
  try simp only [go_sem, map_getD strD _ _ _ h0]
  (repeat (with_reducible refine And.intro ?_ ?_; (first | omega | (intro _; omega) | decide | (exact nfB) | (intro hg; refine ⟨hg, ?_⟩; omega) | (simp; done) | (simp; omega))))
  refine hK1 _ _ ?_
  try clear hK1 K1
  refine AWp.seq fun K2 hK2 => ?_
  refine AWp.rs fun K3 hK3 => ?_
  try simp only [go_sem, map_getD strD _ _ _ h0]
  (repeat (with_reducible refine And.intro ?_ ?_; (first | omega | (intro _; omega) | decide | (exact nfB) | (intro hg; refine ⟨hg, ?_⟩; omega) | (simp; done) | (simp; omega))))
  refine hK3 _ _ ?_
  try clear hK3 K3
  refine AWp.cond _ rfl (fun hc0 => ?_) (fun hc0 => ?_)
  · skip
    try simp only [decide_eq_true_eq, decide_eq_false_iff_not, Bool.not_eq_true', Bool.not_eq_false', Bool.and_eq_true, Bool.or_eq_true, Bool.and_eq_false_iff, Bool.or_eq_false_iff, Int.not_lt, Int.not_le, beq_iff_eq, beq_eq_false_iff_ne, ne_eq, Bool.not_eq_true, Bool.not_eq_false] at hc0
    refine AWp.rs fun K4 hK4 => ?_
    try simp only [go_sem, map_getD strD _ _ _ h0]
    (repeat (with_reducible refine And.intro ?_ ?_; (first | omega | (intro _; omega) | decide | (exact nfB) | (intro hg; refine ⟨hg, ?_⟩; omega) | (simp; done) | (simp; omega))))
    refine DW.pcr rfl rfl rfl rfl (tok_c T _ _) rfl rfl ?_
    try simp only [go_sem, map_getD strD _ _ _ h0]
    (repeat (with_reducible refine And.intro ?_ ?_; (first | omega | (intro _; omega) | decide | (exact nfB) | (intro hg; refine ⟨hg, ?_⟩; omega) | (simp; done) | (simp; omega))))
    refine hK4 _ _ ?_
    try clear hK4 K4
    refine AWp.mask [false, true] rfl ?_
    simp only [go_sem]
    refine AWp.ret ?_
    try simp only [go_sem, map_getD strD _ _ _ h0]
    rw [strsT, if_pos (by omega)]; cases l; simp at h0; simp [toksD, tokD, tS, List.headD]
  · skip
    try simp only [decide_eq_true_eq, decide_eq_false_iff_not, Bool.not_eq_true', Bool.not_eq_false', Bool.and_eq_true, Bool.or_eq_true, Bool.and_eq_false_iff, Bool.or_eq_false_iff, Int.not_lt, Int.not_le, beq_iff_eq, beq_eq_false_iff_ne, ne_eq, Bool.not_eq_true, Bool.not_eq_false] at hc0
    have hl2 : (strsT l).length = 2 * l.length + 1 := by rw [strsT, if_neg (by omega)]; simp [itS_len]
    refine AWp.skip ?_
    refine thenQ_n ?_
    refine hK2 _ _ ?_
    try clear hK2 K2
    refine AWp.mask [true] rfl ?_
    simp only [go_sem]
    refine AWp.cut 1 fun K5 hK5 => ?_
    simp only [List.take_succ_cons, List.take_zero, List.drop_succ_cons, List.drop_zero]
    try simp only [go_sem, map_getD strD _ _ _ h0]
    (repeat (with_reducible refine And.intro ?_ ?_; (first | omega | (intro _; omega) | decide | (exact nfB) | (intro hg; refine ⟨hg, ?_⟩; omega) | (simp; done) | (simp; omega))))
    refine DW.pcr rfl rfl rfl rfl (tok_c T _ _) rfl rfl ?_
    try simp only [go_sem, map_getD strD _ _ _ h0]
    (repeat (with_reducible refine And.intro ?_ ?_; (first | omega | (intro _; omega) | decide | (exact nfB) | (intro hg; refine ⟨hg, ?_⟩; omega) | (simp; done) | (simp; omega))))
    refine DW.bsO rfl rfl (show slI Tryd.prog 28 = some (108, 3, 32) by simp only [go_sem]) (by (try simp only [go_sem, map_getD strD _ _ _ h0]); rfl) rfl (by decide) fun t1 ft1 => ?_
    try simp only [freshT] at ft1
    try simp only [go_sem, map_getD strD _ _ _ h0, ft1]
    (repeat (with_reducible refine And.intro ?_ ?_; (first | omega | (intro _; omega) | decide | (exact nfB) | (intro hg; refine ⟨hg, ?_⟩; omega) | (simp; done) | (simp; omega))))
    refine hK5 _ _ ?_
    try clear hK5 K5
    refine AWp.seq fun K6 hK6 => ?_
    refine AWp.rs fun K7 hK7 => ?_
    try simp only [go_sem, map_getD strD _ _ _ h0, ft1]
    (repeat (with_reducible refine And.intro ?_ ?_; (first | omega | (intro _; omega) | decide | (exact nfB) | (intro hg; refine ⟨hg, ?_⟩; omega) | (simp; done) | (simp; omega))))
    refine hK7 _ _ ?_
    try clear hK7 K7
    refine AWp.block ?_
    refine AWp.mask [true, true, true] rfl ?_
    simp only [go_sem]
    refine AWp.loopS [true] [false, true, true] (fun n lc hc => ∃ (k v : Nat) (Y : List Tok), n = l.length - k ∧ EqS lc [(3, .own v 3 (toksD Y)), (4, .d (.int .i64 k))] ∧ EqS hc (⟨[], [v]⟩) ∧ (k ≤ l.length) ∧ (Y ++ itR (l.drop k) (decide (k = 0)) = tM [91] :: itR l true)) rfl ?_ ?_
    · refine ⟨_, 0, t1, [tM [91]], rfl, ?_, ?_, ?_, ?_⟩
      · (try simp only [go_sem, map_getD strD _ _ _ h0, ft1]) <;> first | exact ⟨rfl⟩ | (constructor; simp [toksD, tokD, tM]; done)
      · (try simp only [go_sem, map_getD strD _ _ _ h0, ft1]) <;> first | exact ⟨rfl⟩ | (constructor; simp; done)
      all_goals (first | omega | rfl | (simp; done) | (simp; omega) | assumption)
    · rintro _ _ _ ⟨k, v, Y, rfl, ⟨rfl⟩, ⟨rfl⟩, hk, hY⟩
      have hYl := congrArg List.length hY
      have := itR_len l true
      simp only [List.length_append, List.length_cons] at hYl
      simp only [go_sem]
      refine AWp.seq fun K8 hK8 => ?_
      refine AWp.rs fun K9 hK9 => ?_
      try simp only [go_sem, map_getD strD _ _ _ h0, ft1]
      (repeat (with_reducible refine And.intro ?_ ?_; (first | omega | (intro _; omega) | decide | (exact nfB) | (intro hg; refine ⟨hg, ?_⟩; omega) | (simp; done) | (simp; omega))))
      refine hK9 _ _ ?_
      try clear hK9 K9
      refine AWp.cond _ rfl (fun hc1 => ?_) (fun hc1 => ?_)
      · skip
        try simp only [decide_eq_true_eq, decide_eq_false_iff_not, Bool.not_eq_true', Bool.not_eq_false', Bool.and_eq_true, Bool.or_eq_true, Bool.and_eq_false_iff, Bool.or_eq_false_iff, Int.not_lt, Int.not_le, beq_iff_eq, beq_eq_false_iff_ne, ne_eq, Bool.not_eq_true, Bool.not_eq_false] at hc1
        have hlt : k < l.length := by omega
        rw [itR_drop _ _ _ hlt] at hYl
        simp only [List.length_append, List.length_cons] at hYl
        refine AWp.skip ?_
        refine thenQ_n ?_
        refine hK8 _ _ ?_
        try clear hK8 K8
        refine AWp.mask [true, true, true] rfl ?_
        simp only [go_sem]
        refine AWp.seq fun K10 hK10 => ?_
        refine AWp.block ?_
        refine AWp.seq fun K11 hK11 => ?_
        refine AWp.rs fun K12 hK12 => ?_
        try simp only [go_sem, map_getD strD _ _ _ h0, ft1, map_getD strD _ _ _ hlt]
        (repeat (with_reducible refine And.intro ?_ ?_; (first | omega | (intro _; omega) | decide | (exact nfB) | (intro hg; refine ⟨hg, ?_⟩; omega) | (simp; done) | (simp; omega))))
        refine hK12 _ _ ?_
        try clear hK12 K12
        refine AWp.cond _ rfl (fun hc2 => ?_) (fun hc2 => ?_)
        · skip
          try simp only [decide_eq_true_eq, decide_eq_false_iff_not, Bool.not_eq_true', Bool.not_eq_false', Bool.and_eq_true, Bool.or_eq_true, Bool.and_eq_false_iff, Bool.or_eq_false_iff, Int.not_lt, Int.not_le, beq_iff_eq, beq_eq_false_iff_ne, ne_eq, Bool.not_eq_true, Bool.not_eq_false] at hc2
          have hk0 : ¬ k = 0 := by omega
          refine AWp.rk fun K13 hK13 => ?_
          try simp only [go_sem, map_getD strD _ _ _ h0, ft1, map_getD strD _ _ _ hlt]
          (repeat (with_reducible refine And.intro ?_ ?_; (first | omega | (intro _; omega) | decide | (exact nfB) | (intro hg; refine ⟨hg, ?_⟩; omega) | (simp; done) | (simp; omega))))
          refine DW.pcr rfl rfl rfl rfl (tok_c T _ _) rfl rfl ?_
          try simp only [go_sem, map_getD strD _ _ _ h0, ft1, map_getD strD _ _ _ hlt]
          (repeat (with_reducible refine And.intro ?_ ?_; (first | omega | (intro _; omega) | decide | (exact nfB) | (intro hg; refine ⟨hg, ?_⟩; omega) | (simp; done) | (simp; omega))))
          refine DW.app rfl rfl rfl rfl (show slI Tryd.prog 28 = some (108, 3, 32) by simp only [go_sem]) rfl rfl (by simp only [go_sem, map_getD strD _ _ _ h0, ft1, map_getD strD _ _ _ hlt]) (by first | exact .inl rfl | exact .inr rfl) (by first | omega | (simp only [go_sem] <;> omega) | (simp only [go_sem, List.length_take, List.length_map, List.length_append, List.length_cons, List.length_nil] <;> omega) | (simp <;> omega)) (by first | (simp only [go_sem, List.length_append, List.length_cons, List.length_nil] <;> omega) | (simp <;> omega)) fun t2 ft2 => ?_
          try simp only [freshT] at ft2
          try simp only [go_sem, map_getD strD _ _ _ h0, ft1, map_getD strD _ _ _ hlt, ft2]
          (repeat (with_reducible refine And.intro ?_ ?_; (first | omega | (intro _; omega) | decide | (exact nfB) | (intro hg; refine ⟨hg, ?_⟩; omega) | (simp; done) | (simp; omega))))
          refine hK13 _ _ ?_
          try clear hK13 K13
          refine thenQ_n ?_
          refine hK11 _ _ ?_
          try clear hK11 K11
          refine AWp.mask [true, true, true] rfl ?_
          simp only [go_sem]
          refine AWp.rk fun K14 hK14 => ?_
          try simp only [go_sem, map_getD strD _ _ _ h0, ft1, map_getD strD _ _ _ hlt, ft2]
          (repeat (with_reducible refine And.intro ?_ ?_; (first | omega | (intro _; omega) | decide | (exact nfB) | (intro hg; refine ⟨hg, ?_⟩; omega) | (simp; done) | (simp; omega))))
          refine DW.pcr rfl rfl rfl rfl (tok_c T _ _) rfl rfl ?_
          try simp only [go_sem, map_getD strD _ _ _ h0, ft1, map_getD strD _ _ _ hlt, ft2]
          (repeat (with_reducible refine And.intro ?_ ?_; (first | omega | (intro _; omega) | decide | (exact nfB) | (intro hg; refine ⟨hg, ?_⟩; omega) | (simp; done) | (simp; omega))))
          refine DW.app rfl rfl rfl rfl (show slI Tryd.prog 28 = some (108, 3, 32) by simp only [go_sem]) rfl rfl (by simp only [go_sem, map_getD strD _ _ _ h0, ft1, map_getD strD _ _ _ hlt, ft2]) (by first | exact .inl rfl | exact .inr rfl) (by first | omega | (simp only [go_sem] <;> omega) | (simp only [go_sem, List.length_take, List.length_map, List.length_append, List.length_cons, List.length_nil] <;> omega) | (simp <;> omega)) (by first | (simp only [go_sem, List.length_append, List.length_cons, List.length_nil] <;> omega) | (simp <;> omega)) fun t3 ft3 => ?_
          try simp only [freshT] at ft3
          try simp only [go_sem, map_getD strD _ _ _ h0, ft1, map_getD strD _ _ _ hlt, ft2, ft3]
          (repeat (with_reducible refine And.intro ?_ ?_; (first | omega | (intro _; omega) | decide | (exact nfB) | (intro hg; refine ⟨hg, ?_⟩; omega) | (simp; done) | (simp; omega))))
          refine hK14 _ _ ?_
          try clear hK14 K14
          refine blkQ_n (thenQ_n ?_)
          refine hK10 _ _ ?_
          try clear hK10 K10
          refine AWp.mask [true, true, true] rfl ?_
          simp only [go_sem]
          refine AWp.rk fun K15 hK15 => ?_
          try simp only [go_sem, map_getD strD _ _ _ h0, ft1, map_getD strD _ _ _ hlt, ft2, ft3]
          (repeat (with_reducible refine And.intro ?_ ?_; (first | omega | (intro _; omega) | decide | (exact nfB) | (intro hg; refine ⟨hg, ?_⟩; omega) | (simp; done) | (simp; omega))))
          refine hK15 _ _ ?_
          try clear hK15 K15
          refine thenQ_n ?_
          refine EndS.mk [true] [false, true, true] [] [] [] [t3] rfl ?_ ?_
          · (try simp only [go_sem, map_getD strD _ _ _ h0, ft1, map_getD strD _ _ _ hlt, ft2, ft3]) <;> try rfl
          refine .e ⟨_, ?_, k + 1, t3, Y ++ (if k = 0 then [] else [tM [44]]) ++ [tS (l[k]'hlt)], rfl, ?_, ?_, ?_, ?_⟩
          · first | omega | (simp; omega) | (grind)
          · (try simp only [go_sem, map_getD strD _ _ _ h0, ft1, map_getD strD _ _ _ hlt, ft2, ft3]) <;> first | exact ⟨rfl⟩ | (constructor; simp [toksD, tokD, tM, tS, hk0])
          · (try simp only [go_sem, map_getD strD _ _ _ h0, ft1, map_getD strD _ _ _ hlt, ft2, ft3]) <;> first | exact ⟨rfl⟩ | (constructor; simp; done)
          · omega
          · rw [← hY, itR_drop _ _ _ hlt]; by_cases hk0 : k = 0 <;> simp [hk0]
        · skip
          try simp only [decide_eq_true_eq, decide_eq_false_iff_not, Bool.not_eq_true', Bool.not_eq_false', Bool.and_eq_true, Bool.or_eq_true, Bool.and_eq_false_iff, Bool.or_eq_false_iff, Int.not_lt, Int.not_le, beq_iff_eq, beq_eq_false_iff_ne, ne_eq, Bool.not_eq_true, Bool.not_eq_false] at hc2
          have hk0 : k = 0 := by omega
          refine AWp.skip ?_
          refine thenQ_n ?_
          refine hK11 _ _ ?_
          try clear hK11 K11
          refine AWp.rk fun K16 hK16 => ?_
          try simp only [go_sem, map_getD strD _ _ _ h0, ft1, map_getD strD _ _ _ hlt]
          (repeat (with_reducible refine And.intro ?_ ?_; (first | omega | (intro _; omega) | decide | (exact nfB) | (intro hg; refine ⟨hg, ?_⟩; omega) | (simp; done) | (simp; omega))))
          refine DW.pcr rfl rfl rfl rfl (tok_c T _ _) rfl rfl ?_
          try simp only [go_sem, map_getD strD _ _ _ h0, ft1, map_getD strD _ _ _ hlt]
          (repeat (with_reducible refine And.intro ?_ ?_; (first | omega | (intro _; omega) | decide | (exact nfB) | (intro hg; refine ⟨hg, ?_⟩; omega) | (simp; done) | (simp; omega))))
          refine DW.app rfl rfl rfl rfl (show slI Tryd.prog 28 = some (108, 3, 32) by simp only [go_sem]) rfl rfl (by simp only [go_sem, map_getD strD _ _ _ h0, ft1, map_getD strD _ _ _ hlt]) (by first | exact .inl rfl | exact .inr rfl) (by first | omega | (simp only [go_sem] <;> omega) | (simp only [go_sem, List.length_take, List.length_map, List.length_append, List.length_cons, List.length_nil] <;> omega) | (simp <;> omega)) (by first | (simp only [go_sem, List.length_append, List.length_cons, List.length_nil] <;> omega) | (simp <;> omega)) fun t4 ft4 => ?_
          try simp only [freshT] at ft4
          try simp only [go_sem, map_getD strD _ _ _ h0, ft1, map_getD strD _ _ _ hlt, ft4]
          (repeat (with_reducible refine And.intro ?_ ?_; (first | omega | (intro _; omega) | decide | (exact nfB) | (intro hg; refine ⟨hg, ?_⟩; omega) | (simp; done) | (simp; omega))))
          refine hK16 _ _ ?_
          try clear hK16 K16
          refine blkQ_n (thenQ_n ?_)
          refine hK10 _ _ ?_
          try clear hK10 K10
          refine AWp.mask [true, true, true] rfl ?_
          simp only [go_sem]
          refine AWp.rk fun K17 hK17 => ?_
          try simp only [go_sem, map_getD strD _ _ _ h0, ft1, map_getD strD _ _ _ hlt, ft4]
          (repeat (with_reducible refine And.intro ?_ ?_; (first | omega | (intro _; omega) | decide | (exact nfB) | (intro hg; refine ⟨hg, ?_⟩; omega) | (simp; done) | (simp; omega))))
          refine hK17 _ _ ?_
          try clear hK17 K17
          refine thenQ_n ?_
          refine EndS.mk [true] [false, true, true] [] [] [] [t4] rfl ?_ ?_
          · (try simp only [go_sem, map_getD strD _ _ _ h0, ft1, map_getD strD _ _ _ hlt, ft4]) <;> try rfl
          refine .e ⟨_, ?_, k + 1, t4, Y ++ (if k = 0 then [] else [tM [44]]) ++ [tS (l[k]'hlt)], rfl, ?_, ?_, ?_, ?_⟩
          · first | omega | (simp; omega) | (grind)
          · (try simp only [go_sem, map_getD strD _ _ _ h0, ft1, map_getD strD _ _ _ hlt, ft4]) <;> first | exact ⟨rfl⟩ | (constructor; simp [toksD, tokD, tM, tS, hk0])
          · (try simp only [go_sem, map_getD strD _ _ _ h0, ft1, map_getD strD _ _ _ hlt, ft4]) <;> first | exact ⟨rfl⟩ | (constructor; simp; done)
          · omega
          · rw [← hY, itR_drop _ _ _ hlt]; by_cases hk0 : k = 0 <;> simp [hk0]
      · skip
        try simp only [decide_eq_true_eq, decide_eq_false_iff_not, Bool.not_eq_true', Bool.not_eq_false', Bool.and_eq_true, Bool.or_eq_true, Bool.and_eq_false_iff, Bool.or_eq_false_iff, Int.not_lt, Int.not_le, beq_iff_eq, beq_eq_false_iff_ne, ne_eq, Bool.not_eq_true, Bool.not_eq_false] at hc1
        refine AWp.exit ?_
        refine thenQ_e (thenQ_e (blkQ_e (thenQ_n ?_)))
        refine hK6 _ _ ?_
        try clear hK6 K6
        refine AWp.mask [false, true] rfl ?_
        simp only [go_sem]
        refine AWp.rs fun K18 hK18 => ?_
        try simp only [go_sem, map_getD strD _ _ _ h0, ft1]
        (repeat (with_reducible refine And.intro ?_ ?_; (first | omega | (intro _; omega) | decide | (exact nfB) | (intro hg; refine ⟨hg, ?_⟩; omega) | (simp; done) | (simp; omega))))
        refine DW.pcr rfl rfl rfl rfl (tok_c T _ _) rfl rfl ?_
        try simp only [go_sem, map_getD strD _ _ _ h0, ft1]
        (repeat (with_reducible refine And.intro ?_ ?_; (first | omega | (intro _; omega) | decide | (exact nfB) | (intro hg; refine ⟨hg, ?_⟩; omega) | (simp; done) | (simp; omega))))
        refine DW.app rfl rfl rfl rfl (show slI Tryd.prog 28 = some (108, 3, 32) by simp only [go_sem]) rfl rfl (by simp only [go_sem, map_getD strD _ _ _ h0, ft1]) (by first | exact .inl rfl | exact .inr rfl) (by first | omega | (simp only [go_sem] <;> omega) | (simp only [go_sem, List.length_take, List.length_map, List.length_append, List.length_cons, List.length_nil] <;> omega) | (simp <;> omega)) (by first | (simp only [go_sem, List.length_append, List.length_cons, List.length_nil] <;> omega) | (simp <;> omega)) fun t5 ft5 => ?_
        try simp only [freshT] at ft5
        try simp only [go_sem, map_getD strD _ _ _ h0, ft1, ft5]
        (repeat (with_reducible refine And.intro ?_ ?_; (first | omega | (intro _; omega) | decide | (exact nfB) | (intro hg; refine ⟨hg, ?_⟩; omega) | (simp; done) | (simp; omega))))
        refine hK18 _ _ ?_
        try clear hK18 K18
        refine AWp.mask [true] rfl ?_
        simp only [go_sem]
        refine AWp.ret ?_
        try simp only [go_sem, map_getD strD _ _ _ h0, ft1, ft5]
        have e : strsT l = Y ++ [tM [93]] := by rw [strsT, if_neg (by omega), ← itR_t l h0, ← hY, itR_end _ _ _ (by omega), List.append_nil]
        rw [e]; simp [toksD, tokD, tM]
def pT (t : Tst) : List Tok := if 0 < t.part then [tG (tabW parWs t.part)] else []
def mT (t : Tst) : List Tok := if 0 < t.mat then [tG (tabW matWs t.mat)] else []
def nT (t : Tst) : List Tok := if 0 < (t.names.length : Int) then strsT t.names else []
def kT (t : Tst) : List Tok := if 0 < (t.keys.length : Int) then strsT t.keys else []
def zT (t : Tst) : List Tok := if t.kind = 10 then [tG (if t.over = true then [111, 118, 101, 114] else [117, 110, 100, 101, 114]), tN t.limit] else []
def st0 (t : Tst) : List Tok := [tW (tabW tstWs t.kind)]
def st1 (t : Tst) : List Tok := st0 t ++ pT t
def st2 (t : Tst) : List Tok := st1 t ++ mT t
def st3 (t : Tst) : List Tok := st2 t ++ nT t
def st4 (t : Tst) : List Tok := st3 t ++ kT t
def st5 (t : Tst) : List Tok := st4 t ++ zT t
theorem st5_eq (t : Tst) (h : okS t = true) (h3 : ¬ t.kind = 3) (hz : t.kids.length = 0) : tT t = st5 t := by
  obtain ⟨o1, o2, o3, o4, o5, o6, o7, o8, o9⟩ := okS_inv t h
  have e45 : inB t.kind 4 5 = false := by
    cases e : inB t.kind 4 5 with
    | false => rfl
    | true => have := o2 e; omega
  rw [tT_eq, if_neg h3, if_neg (by rw [e45]; simp)]
  simp only [st5, st4, st3, st2, st1, st0, pT, mT, nT, kT, zT]
  cases e68 : inB t.kind 6 8 with
  | true =>
    have hk : 6 ≤ t.kind ∧ t.kind ≤ 8 := by simpa [inB] using e68
    obtain ⟨p1, p2, p3, p4⟩ := o3 e68
    rw [if_pos rfl, if_pos (by omega : 0 < t.mat), if_pos (by omega : 0 < (t.names.length : Int)), if_pos (by omega : 0 < (t.keys.length : Int)), if_neg (by omega : ¬ t.kind = 10)]
    by_cases h6 : t.kind = 6
    · rw [if_pos h6, if_neg (by rw [o7 h6]; omega)]; simp
    · obtain ⟨q1, q2⟩ := o4 (by simp [inB]; omega)
      rw [if_neg h6, if_pos (by omega)]; simp
  | false =>
    obtain ⟨r1, r2, r3⟩ := o8 e68
    rw [if_neg (by simp), if_neg (by omega : ¬ 0 < t.part), if_neg (by omega : ¬ 0 < t.mat), if_neg (by omega : ¬ 0 < (t.keys.length : Int))]
    by_cases h9 : t.kind = 9
    · have := o5 h9
      rw [if_pos h9, if_pos (by omega : 0 < (t.names.length : Int)), if_neg (by omega : ¬ t.kind = 10)]; simp
    · have h8 := o9 e68 h9
      rw [if_neg h9, if_neg (by omega : ¬ 0 < (t.names.length : Int))]
      by_cases h10 : t.kind = 10
      · simp [h10]
      · simp [h10]
theorem parOk (t : Tst) (h : okS t = true) : t.part < 4 ∧ t.mat < 4 := by
  obtain ⟨o1, o2, o3, o4, o5, o6, o7, o8, o9⟩ := okS_inv t h
  cases e : inB t.kind 6 8 with
  | false => have := o8 e; omega
  | true =>
    have hk : 6 ≤ t.kind ∧ t.kind ≤ 8 := by simpa [inB] using e
    have := o3 e
    by_cases h6 : t.kind = 6
    · have := o7 h6; omega
    · have := o4 (by simp [inB]; omega); omega
theorem st_len (t : Tst) : (st0 t).length = 1 ∧ (st1 t).length = 1 + (pT t).length ∧ (st2 t).length = (st1 t).length + (mT t).length ∧ (st3 t).length = (st2 t).length + (nT t).length ∧ (st4 t).length = (st3 t).length + (kT t).length ∧ (st5 t).length = (st4 t).length + (zT t).length := by
  refine ⟨?_, ?_, ?_, ?_, ?_, ?_⟩ <;> simp [st5, st4, st3, st2, st1, st0] <;> omega
def tRL : List Tst → Bool → List Tok
  | [], _ => []
  | x :: l, f => (if f = true then [] else [tM [44]]) ++ (tT x ++ tRL l false)
theorem tRL_drop (l : List Tst) (k : Nat) (f : Bool) (h : k < l.length) : tRL (l.drop k) f = (if f = true then [] else [tM [44]]) ++ (tT (l[k]'h) ++ tRL (l.drop (k + 1)) false) := by
  rw [List.drop_eq_getElem_cons h, tRL]
theorem tRL_end (l : List Tst) (k : Nat) (f : Bool) (h : l.length ≤ k) : tRL (l.drop k) f = [] := by rw [List.drop_eq_nil_of_le h, tRL]
theorem tRL_f (l : List Tst) : tRL l false = tTL l false := by
  induction l with
  | nil => rw [tRL, tTL]
  | cons s l ih => simp [tRL, tTL, ih]
theorem tRL_t (l : List Tst) (h : 0 < l.length) : tM [40] :: tRL l true = tTL l true := by
  cases l with
  | nil => simp at h
  | cons s l => simp [tRL, tTL, tRL_f]
set_option maxRecDepth 4000 in
set_option maxHeartbeats 1000000 in
theorem testShown_step (T : Tbl) (t : Tst) (ok : t.Ok) (d : Int) (hF : tF t d = 0) (hl : (tT t).length ≤ 4398046511104) (ih : ∀ x ∈ t.kids, (tT x).length ≤ 4398046511104 → PC Tryd.prog T 181 [.agg (tstA x)] (.d (.slc 3 (toksD (tT x))))) : PC Tryd.prog T 181 [.agg (tstA t)] (.d (.slc 3 (toksD (tT t)))) := by
  refine ⟨Tryd.call181, PCall.enterS Tryd.func181 rfl Tryd.ntmps181 rfl fun hb => ?_⟩
  obtain ⟨s1, s2, s3, s4⟩ := ok.inv
  obtain ⟨hk, hO, hK⟩ := tF_ok hF
  obtain ⟨o1, o2, o3, o4, o5, o6, o7, o8, o9⟩ := okS_inv t hO
  have hkk : 1 ≤ t.kind ∧ t.kind ≤ 10 := by simpa [inB] using hk
  obtain ⟨l0, l1, l2, l3, l4, l5⟩ := st_len t
  obtain ⟨pk1, pk2⟩ := parOk t hO
  simp only [go_sem, Tryd.results181]
  refine AWp.rs fun K1 hK1 => ?_
  try simp only [go_sem]
  (repeat (with_reducible refine And.intro ?_ ?_; (first | omega | (intro _; omega) | decide | (exact nfB) | (intro hg; refine ⟨hg, ?_⟩; omega) | (simp; done) | (simp; omega))))
  intro b3 fb3
  try simp only [freshL] at fb3
  try simp only [go_sem, fb3]
  (repeat (with_reducible refine And.intro ?_ ?_; (first | omega | (intro _; omega) | decide | (exact nfB) | (intro hg; refine ⟨hg, ?_⟩; omega) | (simp; done) | (simp; omega))))
  refine hK1 _ _ ?_
  try clear hK1 K1
  refine AWp.cut 4 fun K2 hK2 => ?_
  simp only [List.take_succ_cons, List.take_zero, List.drop_succ_cons, List.drop_zero]
  try simp only [go_sem, fb3]
  (repeat (with_reducible refine And.intro ?_ ?_; (first | omega | (intro _; omega) | decide | (exact nfB) | (intro hg; refine ⟨hg, ?_⟩; omega) | (simp; done) | (simp; omega))))
  refine DW.pcr rfl rfl rfl rfl (testWord_c T _ (by omega) (by omega)) rfl rfl ?_
  try simp only [go_sem, fb3]
  (repeat (with_reducible refine And.intro ?_ ?_; (first | omega | (intro _; omega) | decide | (exact nfB) | (intro hg; refine ⟨hg, ?_⟩; omega) | (simp; done) | (simp; omega))))
  refine DW.pcr rfl rfl rfl rfl (tok_c T _ _) rfl rfl ?_
  try simp only [go_sem, fb3]
  (repeat (with_reducible refine And.intro ?_ ?_; (first | omega | (intro _; omega) | decide | (exact nfB) | (intro hg; refine ⟨hg, ?_⟩; omega) | (simp; done) | (simp; omega))))
  refine DW.bsO rfl rfl (show slI Tryd.prog 28 = some (108, 3, 32) by simp only [go_sem]) (by (try simp only [go_sem, fb3]); rfl) rfl (by decide) fun t1 ft1 => ?_
  try simp only [freshT] at ft1
  try simp only [go_sem, fb3, ft1]
  (repeat (with_reducible refine And.intro ?_ ?_; (first | omega | (intro _; omega) | decide | (exact nfB) | (intro hg; refine ⟨hg, ?_⟩; omega) | (simp; done) | (simp; omega))))
  refine hK2 _ _ ?_
  try clear hK2 K2
  refine AWp.mask [false, true, false, true] rfl ?_
  simp only [go_sem]
  refine AWp.seq fun K3 hK3 => ?_
  refine AWp.rs fun K4 hK4 => ?_
  try simp only [go_sem, fb3, ft1]
  (repeat (with_reducible refine And.intro ?_ ?_; (first | omega | (intro _; omega) | decide | (exact nfB) | (intro hg; refine ⟨hg, ?_⟩; omega) | (simp; done) | (simp; omega))))
  refine hK4 _ _ ?_
  try clear hK4 K4
  refine AWp.cond _ rfl (fun hc0 => ?_) (fun hc0 => ?_)
  · skip
    try simp only [decide_eq_true_eq, decide_eq_false_iff_not, Bool.not_eq_true', Bool.not_eq_false', Bool.and_eq_true, Bool.or_eq_true, Bool.and_eq_false_iff, Bool.or_eq_false_iff, Int.not_lt, Int.not_le, beq_iff_eq, beq_eq_false_iff_ne, ne_eq, Bool.not_eq_true, Bool.not_eq_false] at hc0
    have h0 : 0 < t.kids.length := by rw [o1 hc0]; omega
    have hT : tT t = tW (tabW tstWs t.kind) :: tT (t.kids[0]'h0) := by rw [tT_eq, if_pos hc0, tK_eq]
    have hTl := congrArg List.length hT
    simp only [List.length_cons, List.length_append, List.length_nil] at hTl
    refine AWp.rs fun K5 hK5 => ?_
    try simp only [go_sem, fb3, ft1, kidsD_get t 0 _ h0]
    (repeat (with_reducible refine And.intro ?_ ?_; (first | omega | (intro _; omega) | decide | (exact nfB) | (intro hg; refine ⟨hg, ?_⟩; omega) | (simp; done) | (simp; omega))))
    refine DW.pcr rfl rfl rfl rfl (ih _ (List.getElem_mem h0) (by omega)) rfl rfl ?_
    try simp only [go_sem, fb3, ft1, kidsD_get t 0 _ h0]
    (repeat (with_reducible refine And.intro ?_ ?_; (first | omega | (intro _; omega) | decide | (exact nfB) | (intro hg; refine ⟨hg, ?_⟩; omega) | (simp; done) | (simp; omega))))
    refine DW.app rfl rfl rfl rfl (show slI Tryd.prog 28 = some (108, 3, 32) by simp only [go_sem]) rfl rfl (by simp only [go_sem, fb3, ft1, kidsD_get t 0 _ h0]) (by first | exact .inl rfl | exact .inr rfl) (by first | (simp only [go_sem, List.length_append, List.length_cons, List.length_nil] <;> omega) | (simp <;> omega)) (by first | (simp only [go_sem, List.length_append, List.length_cons, List.length_nil] <;> omega) | (simp <;> omega)) fun t2 ft2 => ?_
    try simp only [freshT] at ft2
    try simp only [go_sem, fb3, ft1, kidsD_get t 0 _ h0, ft2]
    (repeat (with_reducible refine And.intro ?_ ?_; (first | omega | (intro _; omega) | decide | (exact nfB) | (intro hg; refine ⟨hg, ?_⟩; omega) | (simp; done) | (simp; omega))))
    refine hK5 _ _ ?_
    try clear hK5 K5
    refine AWp.mask [false, true] rfl ?_
    simp only [go_sem]
    refine AWp.ret ?_
    try simp only [go_sem, fb3, ft1, kidsD_get t 0 _ h0, ft2]
    rw [hT]; simp [toksD, tokD, tW]
  · skip
    try simp only [decide_eq_true_eq, decide_eq_false_iff_not, Bool.not_eq_true', Bool.not_eq_false', Bool.and_eq_true, Bool.or_eq_true, Bool.and_eq_false_iff, Bool.or_eq_false_iff, Int.not_lt, Int.not_le, beq_iff_eq, beq_eq_false_iff_ne, ne_eq, Bool.not_eq_true, Bool.not_eq_false] at hc0
    refine AWp.skip ?_
    refine thenQ_n ?_
    refine hK3 _ _ ?_
    try clear hK3 K3
    refine AWp.seq fun K6 hK6 => ?_
    refine AWp.rs fun K7 hK7 => ?_
    try simp only [go_sem, fb3, ft1]
    (repeat (with_reducible refine And.intro ?_ ?_; (first | omega | (intro _; omega) | decide | (exact nfB) | (intro hg; refine ⟨hg, ?_⟩; omega) | (simp; done) | (simp; omega))))
    refine hK7 _ _ ?_
    try clear hK7 K7
    refine AWp.mask [true, true, false, false, false, false, false, false, true] rfl ?_
    simp only [go_sem]
    refine AWp.cond _ rfl (fun hc1 => ?_) (fun hc1 => ?_)
    · skip
      try simp only [decide_eq_true_eq, decide_eq_false_iff_not, Bool.not_eq_true', Bool.not_eq_false', Bool.and_eq_true, Bool.or_eq_true, Bool.and_eq_false_iff, Bool.or_eq_false_iff, Int.not_lt, Int.not_le, beq_iff_eq, beq_eq_false_iff_ne, ne_eq, Bool.not_eq_true, Bool.not_eq_false] at hc1
      have h0 : 0 < t.kids.length := by omega
      have e45 : inB t.kind 4 5 = true := by
        cases e : inB t.kind 3 5 with
        | false => have := o6 e; omega
        | true => simp [inB] at e ⊢; omega
      have hT : tT t = tW (tabW tstWs t.kind) :: (tM [40] :: tRL t.kids true ++ [tM [41]]) := by rw [tT_eq, if_neg hc0, if_pos e45, tRL_t _ h0]
      have hTl := congrArg List.length hT
      simp only [List.length_cons, List.length_append, List.length_nil] at hTl
      refine AWp.rs fun K8 hK8 => ?_
      try simp only [go_sem, fb3, ft1]
      (repeat (with_reducible refine And.intro ?_ ?_; (first | omega | (intro _; omega) | decide | (exact nfB) | (intro hg; refine ⟨hg, ?_⟩; omega) | (simp; done) | (simp; omega))))
      refine DW.pcr rfl rfl rfl rfl (tok_c T _ _) rfl rfl ?_
      try simp only [go_sem, fb3, ft1]
      (repeat (with_reducible refine And.intro ?_ ?_; (first | omega | (intro _; omega) | decide | (exact nfB) | (intro hg; refine ⟨hg, ?_⟩; omega) | (simp; done) | (simp; omega))))
      refine DW.app rfl rfl rfl rfl (show slI Tryd.prog 28 = some (108, 3, 32) by simp only [go_sem]) rfl rfl (by simp only [go_sem, fb3, ft1]) (by first | exact .inl rfl | exact .inr rfl) (by first | (simp only [go_sem, List.length_append, List.length_cons, List.length_nil] <;> omega) | (simp <;> omega)) (by first | (simp only [go_sem, List.length_append, List.length_cons, List.length_nil] <;> omega) | (simp <;> omega)) fun t3 ft3 => ?_
      try simp only [freshT] at ft3
      try simp only [go_sem, fb3, ft1, ft3]
      (repeat (with_reducible refine And.intro ?_ ?_; (first | omega | (intro _; omega) | decide | (exact nfB) | (intro hg; refine ⟨hg, ?_⟩; omega) | (simp; done) | (simp; omega))))
      refine hK8 _ _ ?_
      try clear hK8 K8
      refine AWp.mask [true, true] rfl ?_
      simp only [go_sem]
      refine AWp.seq fun K9 hK9 => ?_
      refine AWp.rs fun K10 hK10 => ?_
      try simp only [go_sem, fb3, ft1, ft3]
      (repeat (with_reducible refine And.intro ?_ ?_; (first | omega | (intro _; omega) | decide | (exact nfB) | (intro hg; refine ⟨hg, ?_⟩; omega) | (simp; done) | (simp; omega))))
      refine hK10 _ _ ?_
      try clear hK10 K10
      refine AWp.block ?_
      refine AWp.loopS [true] [false, true, true] (fun n lc hc => ∃ (k v : Nat) (Y : List Tok), n = t.kids.length - k ∧ EqS lc [(3, .own v 3 (toksD Y)), (4, .d (.int .i64 k))] ∧ EqS hc (⟨[(b3, ⟨8, 1, [tstA t]⟩)], [v]⟩) ∧ (k ≤ t.kids.length) ∧ (Y ++ tRL (t.kids.drop k) (decide (k = 0)) = tW (tabW tstWs t.kind) :: tM [40] :: tRL t.kids true)) rfl ?_ ?_
      · refine ⟨_, 0, t3, [tW (tabW tstWs t.kind), tM [40]], rfl, ?_, ?_, ?_, ?_⟩
        · (try simp only [go_sem, fb3, ft1, ft3]) <;> first | exact ⟨rfl⟩ | (constructor; simp [toksD, tokD, tM, tW]; done)
        · (try simp only [go_sem, fb3, ft1, ft3]) <;> first | exact ⟨rfl⟩ | (constructor; simp; done)
        all_goals (first | omega | rfl | (simp; done) | (simp; omega) | assumption)
      · rintro _ _ _ ⟨k, v, Y, rfl, ⟨rfl⟩, ⟨rfl⟩, hk2, hY⟩
        have hYl := congrArg List.length hY
        simp only [List.length_append, List.length_cons] at hYl
        simp only [go_sem]
        refine AWp.seq fun K11 hK11 => ?_
        refine AWp.rs fun K12 hK12 => ?_
        try simp only [go_sem, fb3, ft1, ft3]
        (repeat (with_reducible refine And.intro ?_ ?_; (first | omega | (intro _; omega) | decide | (exact nfB) | (intro hg; refine ⟨hg, ?_⟩; omega) | (simp; done) | (simp; omega))))
        refine hK12 _ _ ?_
        try clear hK12 K12
        refine AWp.mask [true, true, true, false, false, false, false, true] rfl ?_
        simp only [go_sem]
        refine AWp.cond _ rfl (fun hc2 => ?_) (fun hc2 => ?_)
        · skip
          try simp only [decide_eq_true_eq, decide_eq_false_iff_not, Bool.not_eq_true', Bool.not_eq_false', Bool.and_eq_true, Bool.or_eq_true, Bool.and_eq_false_iff, Bool.or_eq_false_iff, Int.not_lt, Int.not_le, beq_iff_eq, beq_eq_false_iff_ne, ne_eq, Bool.not_eq_true, Bool.not_eq_false] at hc2
          have hlt : k < t.kids.length := by omega
          rw [tRL_drop _ _ _ hlt] at hYl
          simp only [List.length_append, List.length_cons] at hYl
          refine AWp.skip ?_
          refine thenQ_n ?_
          refine hK11 _ _ ?_
          try clear hK11 K11
          refine AWp.seq fun K13 hK13 => ?_
          refine AWp.block ?_
          refine AWp.seq fun K14 hK14 => ?_
          refine AWp.rs fun K15 hK15 => ?_
          try simp only [go_sem, fb3, ft1, ft3, kidsD_get t k _ hlt]
          (repeat (with_reducible refine And.intro ?_ ?_; (first | omega | (intro _; omega) | decide | (exact nfB) | (intro hg; refine ⟨hg, ?_⟩; omega) | (simp; done) | (simp; omega))))
          refine hK15 _ _ ?_
          try clear hK15 K15
          refine AWp.cond _ rfl (fun hc3 => ?_) (fun hc3 => ?_)
          · skip
            try simp only [decide_eq_true_eq, decide_eq_false_iff_not, Bool.not_eq_true', Bool.not_eq_false', Bool.and_eq_true, Bool.or_eq_true, Bool.and_eq_false_iff, Bool.or_eq_false_iff, Int.not_lt, Int.not_le, beq_iff_eq, beq_eq_false_iff_ne, ne_eq, Bool.not_eq_true, Bool.not_eq_false] at hc3
            have hk0 : ¬ k = 0 := by omega
            simp only [hk0, decide_false, Bool.false_eq_true, if_false, List.length_cons, List.length_nil] at hYl
            refine AWp.rk fun K16 hK16 => ?_
            try simp only [go_sem, fb3, ft1, ft3, kidsD_get t k _ hlt]
            (repeat (with_reducible refine And.intro ?_ ?_; (first | omega | (intro _; omega) | decide | (exact nfB) | (intro hg; refine ⟨hg, ?_⟩; omega) | (simp; done) | (simp; omega))))
            refine DW.pcr rfl rfl rfl rfl (tok_c T _ _) rfl rfl ?_
            try simp only [go_sem, fb3, ft1, ft3, kidsD_get t k _ hlt]
            (repeat (with_reducible refine And.intro ?_ ?_; (first | omega | (intro _; omega) | decide | (exact nfB) | (intro hg; refine ⟨hg, ?_⟩; omega) | (simp; done) | (simp; omega))))
            refine DW.app rfl rfl rfl rfl (show slI Tryd.prog 28 = some (108, 3, 32) by simp only [go_sem]) rfl rfl (by simp only [go_sem, fb3, ft1, ft3, kidsD_get t k _ hlt]) (by first | exact .inl rfl | exact .inr rfl) (by first | (simp only [go_sem, List.length_append, List.length_cons, List.length_nil] <;> omega) | (simp <;> omega)) (by first | (simp only [go_sem, List.length_append, List.length_cons, List.length_nil] <;> omega) | (simp <;> omega)) fun t4 ft4 => ?_
            try simp only [freshT] at ft4
            try simp only [go_sem, fb3, ft1, ft3, kidsD_get t k _ hlt, ft4]
            (repeat (with_reducible refine And.intro ?_ ?_; (first | omega | (intro _; omega) | decide | (exact nfB) | (intro hg; refine ⟨hg, ?_⟩; omega) | (simp; done) | (simp; omega))))
            refine hK16 _ _ ?_
            try clear hK16 K16
            refine thenQ_n ?_
            refine hK14 _ _ ?_
            try clear hK14 K14
            refine AWp.mask [true, true, true] rfl ?_
            simp only [go_sem]
            refine AWp.rk fun K17 hK17 => ?_
            try simp only [go_sem, fb3, ft1, ft3, kidsD_get t k _ hlt, ft4]
            (repeat (with_reducible refine And.intro ?_ ?_; (first | omega | (intro _; omega) | decide | (exact nfB) | (intro hg; refine ⟨hg, ?_⟩; omega) | (simp; done) | (simp; omega))))
            refine DW.pcr rfl rfl rfl rfl (ih _ (List.getElem_mem hlt) (by omega)) rfl rfl ?_
            try simp only [go_sem, fb3, ft1, ft3, kidsD_get t k _ hlt, ft4]
            (repeat (with_reducible refine And.intro ?_ ?_; (first | omega | (intro _; omega) | decide | (exact nfB) | (intro hg; refine ⟨hg, ?_⟩; omega) | (simp; done) | (simp; omega))))
            refine DW.app rfl rfl rfl rfl (show slI Tryd.prog 28 = some (108, 3, 32) by simp only [go_sem]) rfl rfl (by simp only [go_sem, fb3, ft1, ft3, kidsD_get t k _ hlt, ft4]) (by first | exact .inl rfl | exact .inr rfl) (by first | (simp only [go_sem, List.length_append, List.length_cons, List.length_nil] <;> omega) | (simp <;> omega)) (by first | (simp only [go_sem, List.length_append, List.length_cons, List.length_nil] <;> omega) | (simp <;> omega)) fun t5 ft5 => ?_
            try simp only [freshT] at ft5
            try simp only [go_sem, fb3, ft1, ft3, kidsD_get t k _ hlt, ft4, ft5]
            (repeat (with_reducible refine And.intro ?_ ?_; (first | omega | (intro _; omega) | decide | (exact nfB) | (intro hg; refine ⟨hg, ?_⟩; omega) | (simp; done) | (simp; omega))))
            refine hK17 _ _ ?_
            try clear hK17 K17
            refine blkQ_n (thenQ_n ?_)
            refine hK13 _ _ ?_
            try clear hK13 K13
            refine AWp.mask [true, true, true] rfl ?_
            simp only [go_sem]
            refine AWp.rk fun K18 hK18 => ?_
            try simp only [go_sem, fb3, ft1, ft3, kidsD_get t k _ hlt, ft4, ft5]
            (repeat (with_reducible refine And.intro ?_ ?_; (first | omega | (intro _; omega) | decide | (exact nfB) | (intro hg; refine ⟨hg, ?_⟩; omega) | (simp; done) | (simp; omega))))
            refine hK18 _ _ ?_
            try clear hK18 K18
            refine thenQ_n ?_
            refine EndS.mk [true] [false, true, true] [] [] [] [t5] rfl ?_ ?_
            · (try simp only [go_sem, fb3, ft1, ft3, kidsD_get t k _ hlt, ft4, ft5]) <;> try rfl
            refine .e ⟨_, ?_, k + 1, t5, Y ++ (if k = 0 then [] else [tM [44]]) ++ tT (t.kids[k]'hlt), rfl, ?_, ?_, ?_, ?_⟩
            · first | omega | (simp; omega) | (grind)
            · (try simp only [go_sem, fb3, ft1, ft3, kidsD_get t k _ hlt, ft4, ft5]) <;> first | exact ⟨rfl⟩ | (constructor; simp [toksD, tokD, tM, tS, hk0])
            · (try simp only [go_sem, fb3, ft1, ft3, kidsD_get t k _ hlt, ft4, ft5]) <;> first | exact ⟨rfl⟩ | (constructor; simp; done)
            · omega
            · rw [← hY, tRL_drop _ _ _ hlt]; by_cases hk0 : k = 0 <;> simp [hk0]
          · skip
            try simp only [decide_eq_true_eq, decide_eq_false_iff_not, Bool.not_eq_true', Bool.not_eq_false', Bool.and_eq_true, Bool.or_eq_true, Bool.and_eq_false_iff, Bool.or_eq_false_iff, Int.not_lt, Int.not_le, beq_iff_eq, beq_eq_false_iff_ne, ne_eq, Bool.not_eq_true, Bool.not_eq_false] at hc3
            have hk0 : k = 0 := by omega
            refine AWp.skip ?_
            refine thenQ_n ?_
            refine hK14 _ _ ?_
            try clear hK14 K14
            refine AWp.rk fun K19 hK19 => ?_
            try simp only [go_sem, fb3, ft1, ft3, kidsD_get t k _ hlt]
            (repeat (with_reducible refine And.intro ?_ ?_; (first | omega | (intro _; omega) | decide | (exact nfB) | (intro hg; refine ⟨hg, ?_⟩; omega) | (simp; done) | (simp; omega))))
            refine DW.pcr rfl rfl rfl rfl (ih _ (List.getElem_mem hlt) (by omega)) rfl rfl ?_
            try simp only [go_sem, fb3, ft1, ft3, kidsD_get t k _ hlt]
            (repeat (with_reducible refine And.intro ?_ ?_; (first | omega | (intro _; omega) | decide | (exact nfB) | (intro hg; refine ⟨hg, ?_⟩; omega) | (simp; done) | (simp; omega))))
            refine DW.app rfl rfl rfl rfl (show slI Tryd.prog 28 = some (108, 3, 32) by simp only [go_sem]) rfl rfl (by simp only [go_sem, fb3, ft1, ft3, kidsD_get t k _ hlt]) (by first | exact .inl rfl | exact .inr rfl) (by first | (simp only [go_sem, List.length_append, List.length_cons, List.length_nil] <;> omega) | (simp <;> omega)) (by first | (simp only [go_sem, List.length_append, List.length_cons, List.length_nil] <;> omega) | (simp <;> omega)) fun t6 ft6 => ?_
            try simp only [freshT] at ft6
            try simp only [go_sem, fb3, ft1, ft3, kidsD_get t k _ hlt, ft6]
            (repeat (with_reducible refine And.intro ?_ ?_; (first | omega | (intro _; omega) | decide | (exact nfB) | (intro hg; refine ⟨hg, ?_⟩; omega) | (simp; done) | (simp; omega))))
            refine hK19 _ _ ?_
            try clear hK19 K19
            refine blkQ_n (thenQ_n ?_)
            refine hK13 _ _ ?_
            try clear hK13 K13
            refine AWp.mask [true, true, true] rfl ?_
            simp only [go_sem]
            refine AWp.rk fun K20 hK20 => ?_
            try simp only [go_sem, fb3, ft1, ft3, kidsD_get t k _ hlt, ft6]
            (repeat (with_reducible refine And.intro ?_ ?_; (first | omega | (intro _; omega) | decide | (exact nfB) | (intro hg; refine ⟨hg, ?_⟩; omega) | (simp; done) | (simp; omega))))
            refine hK20 _ _ ?_
            try clear hK20 K20
            refine thenQ_n ?_
            refine EndS.mk [true] [false, true, true] [] [] [] [t6] rfl ?_ ?_
            · (try simp only [go_sem, fb3, ft1, ft3, kidsD_get t k _ hlt, ft6]) <;> try rfl
            refine .e ⟨_, ?_, k + 1, t6, Y ++ (if k = 0 then [] else [tM [44]]) ++ tT (t.kids[k]'hlt), rfl, ?_, ?_, ?_, ?_⟩
            · first | omega | (simp; omega) | (grind)
            · (try simp only [go_sem, fb3, ft1, ft3, kidsD_get t k _ hlt, ft6]) <;> first | exact ⟨rfl⟩ | (constructor; simp [toksD, tokD, tM, tS, hk0])
            · (try simp only [go_sem, fb3, ft1, ft3, kidsD_get t k _ hlt, ft6]) <;> first | exact ⟨rfl⟩ | (constructor; simp; done)
            · omega
            · rw [← hY, tRL_drop _ _ _ hlt]; by_cases hk0 : k = 0 <;> simp [hk0]
        · skip
          try simp only [decide_eq_true_eq, decide_eq_false_iff_not, Bool.not_eq_true', Bool.not_eq_false', Bool.and_eq_true, Bool.or_eq_true, Bool.and_eq_false_iff, Bool.or_eq_false_iff, Int.not_lt, Int.not_le, beq_iff_eq, beq_eq_false_iff_ne, ne_eq, Bool.not_eq_true, Bool.not_eq_false] at hc2
          refine AWp.exit ?_
          refine thenQ_e (thenQ_e (blkQ_e (thenQ_n ?_)))
          refine hK9 _ _ ?_
          try clear hK9 K9
          refine AWp.rs fun K21 hK21 => ?_
          try simp only [go_sem, fb3, ft1, ft3]
          (repeat (with_reducible refine And.intro ?_ ?_; (first | omega | (intro _; omega) | decide | (exact nfB) | (intro hg; refine ⟨hg, ?_⟩; omega) | (simp; done) | (simp; omega))))
          refine DW.pcr rfl rfl rfl rfl (tok_c T _ _) rfl rfl ?_
          try simp only [go_sem, fb3, ft1, ft3]
          (repeat (with_reducible refine And.intro ?_ ?_; (first | omega | (intro _; omega) | decide | (exact nfB) | (intro hg; refine ⟨hg, ?_⟩; omega) | (simp; done) | (simp; omega))))
          refine DW.app rfl rfl rfl rfl (show slI Tryd.prog 28 = some (108, 3, 32) by simp only [go_sem]) rfl rfl (by simp only [go_sem, fb3, ft1, ft3]) (by first | exact .inl rfl | exact .inr rfl) (by first | (simp only [go_sem, List.length_append, List.length_cons, List.length_nil] <;> omega) | (simp <;> omega)) (by first | (simp only [go_sem, List.length_append, List.length_cons, List.length_nil] <;> omega) | (simp <;> omega)) fun t7 ft7 => ?_
          try simp only [freshT] at ft7
          try simp only [go_sem, fb3, ft1, ft3, ft7]
          (repeat (with_reducible refine And.intro ?_ ?_; (first | omega | (intro _; omega) | decide | (exact nfB) | (intro hg; refine ⟨hg, ?_⟩; omega) | (simp; done) | (simp; omega))))
          refine hK21 _ _ ?_
          try clear hK21 K21
          refine AWp.mask [false, true] rfl ?_
          simp only [go_sem]
          refine AWp.ret ?_
          try simp only [go_sem, fb3, ft1, ft3, ft7]
          have e : tT t = Y ++ [tM [41]] := by
            rw [tRL_end _ _ _ (by omega), List.append_nil] at hY
            rw [hT, hY]; rfl
          rw [e]; simp [toksD, tokD, tM]
    · skip
      try simp only [decide_eq_true_eq, decide_eq_false_iff_not, Bool.not_eq_true', Bool.not_eq_false', Bool.and_eq_true, Bool.or_eq_true, Bool.and_eq_false_iff, Bool.or_eq_false_iff, Int.not_lt, Int.not_le, beq_iff_eq, beq_eq_false_iff_ne, ne_eq, Bool.not_eq_true, Bool.not_eq_false] at hc1
      have hT : tT t = st5 t := st5_eq t hO hc0 (by omega)
      have hTl := congrArg List.length hT
      refine AWp.skip ?_
      refine thenQ_n ?_
      refine hK6 _ _ ?_
      try clear hK6 K6
      refine AWp.seq fun K22 hK22 => ?_
      refine AWp.rs fun K23 hK23 => ?_
      try simp only [go_sem, fb3, ft1]
      (repeat (with_reducible refine And.intro ?_ ?_; (first | omega | (intro _; omega) | decide | (exact nfB) | (intro hg; refine ⟨hg, ?_⟩; omega) | (simp; done) | (simp; omega))))
      refine hK23 _ _ ?_
      try clear hK23 K23
      refine AWp.mask [true, true, false, false, false, true] rfl ?_
      simp only [go_sem]
      refine AWp.joinK hK22 [true] (fun lc hc => ∃ (v : Nat), EqS lc [(3, .own v 3 (toksD (st1 t)))] ∧ EqS hc (⟨[(b3, ⟨8, 1, [tstA t]⟩)], [v]⟩)) ?_ ?_
      · skip
        refine AWp.cond _ rfl (fun hc4 => ?_) (fun hc4 => ?_)
        · skip
          try simp only [decide_eq_true_eq, decide_eq_false_iff_not, Bool.not_eq_true', Bool.not_eq_false', Bool.and_eq_true, Bool.or_eq_true, Bool.and_eq_false_iff, Bool.or_eq_false_iff, Int.not_lt, Int.not_le, beq_iff_eq, beq_eq_false_iff_ne, ne_eq, Bool.not_eq_true, Bool.not_eq_false] at hc4
          have hg : pT t = [tG (tabW parWs t.part)] := if_pos hc4
          have hgl := congrArg List.length hg
          simp only [List.length_cons, List.length_nil] at hgl
          refine AWp.rk fun K24 hK24 => ?_
          try simp only [go_sem, fb3, ft1]
          (repeat (with_reducible refine And.intro ?_ ?_; (first | omega | (intro _; omega) | decide | (exact nfB) | (intro hg; refine ⟨hg, ?_⟩; omega) | (simp; done) | (simp; omega))))
          refine DW.pcr rfl rfl rfl rfl (partWord_c T _ (by omega) (by omega)) rfl rfl ?_
          try simp only [go_sem, fb3, ft1]
          (repeat (with_reducible refine And.intro ?_ ?_; (first | omega | (intro _; omega) | decide | (exact nfB) | (intro hg; refine ⟨hg, ?_⟩; omega) | (simp; done) | (simp; omega))))
          refine DW.pcr rfl rfl rfl rfl (tok_c T _ _) rfl rfl ?_
          try simp only [go_sem, fb3, ft1]
          (repeat (with_reducible refine And.intro ?_ ?_; (first | omega | (intro _; omega) | decide | (exact nfB) | (intro hg; refine ⟨hg, ?_⟩; omega) | (simp; done) | (simp; omega))))
          refine DW.app rfl rfl rfl rfl (show slI Tryd.prog 28 = some (108, 3, 32) by simp only [go_sem]) rfl rfl (by simp only [go_sem, fb3, ft1]) (by first | exact .inl rfl | exact .inr rfl) (by first | (simp only [go_sem, List.length_append, List.length_cons, List.length_nil] <;> omega) | (simp <;> omega)) (by first | (simp only [go_sem, List.length_append, List.length_cons, List.length_nil] <;> omega) | (simp <;> omega)) fun t8 ft8 => ?_
          try simp only [freshT] at ft8
          try simp only [go_sem, fb3, ft1, ft8]
          (repeat (with_reducible refine And.intro ?_ ?_; (first | omega | (intro _; omega) | decide | (exact nfB) | (intro hg; refine ⟨hg, ?_⟩; omega) | (simp; done) | (simp; omega))))
          refine hK24 _ _ ?_
          try clear hK24 K24
          refine thenQ_n ?_
          refine EndS.mk [true] [false, true] [] [] [] [t8] rfl ?_ ?_
          · (try simp only [go_sem, fb3, ft1, ft8]) <;> try rfl
          refine .e ⟨t8, ?_, ?_⟩
          · (try simp only [go_sem, fb3, ft1, ft8]) <;> first | exact ⟨rfl⟩ | (constructor; first | (rw [st1, hg]; simp [toksD, tokD, tG, tW, tN, st0]; done) | (rw [st1, hg]; simp [toksD, tokD, tG, tW, tN, st0, hc9]))
          · (try simp only [go_sem, fb3, ft1, ft8]) <;> first | exact ⟨rfl⟩ | (constructor; grind)
        · skip
          try simp only [decide_eq_true_eq, decide_eq_false_iff_not, Bool.not_eq_true', Bool.not_eq_false', Bool.and_eq_true, Bool.or_eq_true, Bool.and_eq_false_iff, Bool.or_eq_false_iff, Int.not_lt, Int.not_le, beq_iff_eq, beq_eq_false_iff_ne, ne_eq, Bool.not_eq_true, Bool.not_eq_false] at hc4
          have hg : pT t = [] := if_neg (show ¬ 0 < t.part by omega)
          refine AWp.skip ?_
          refine thenQ_n ?_
          refine EndS.mk [true] [false, true] [] [] [] [t1] rfl ?_ ?_
          · (try simp only [go_sem, fb3, ft1]) <;> try rfl
          refine .e ⟨t1, ?_, ?_⟩
          · (try simp only [go_sem, fb3, ft1]) <;> first | exact ⟨rfl⟩ | (constructor; first | (rw [st1, hg]; simp [toksD, tokD, tG, tW, tN, st0]; done) | (rw [st1, hg]; simp [toksD, tokD, tG, tW, tN, st0, hc9]))
          · (try simp only [go_sem, fb3, ft1]) <;> first | exact ⟨rfl⟩ | (constructor; grind)
      · rintro _ _ ⟨v, ⟨rfl⟩, ⟨rfl⟩⟩
        simp only [go_sem]
        refine AWp.seq fun K25 hK25 => ?_
        refine AWp.rs fun K26 hK26 => ?_
        try simp only [go_sem, fb3, ft1]
        (repeat (with_reducible refine And.intro ?_ ?_; (first | omega | (intro _; omega) | decide | (exact nfB) | (intro hg; refine ⟨hg, ?_⟩; omega) | (simp; done) | (simp; omega))))
        refine hK26 _ _ ?_
        try clear hK26 K26
        refine AWp.mask [true, true, false, false, true] rfl ?_
        simp only [go_sem]
        refine AWp.joinK hK25 [true] (fun lc hc => ∃ (v : Nat), EqS lc [(3, .own v 3 (toksD (st2 t)))] ∧ EqS hc (⟨[(b3, ⟨8, 1, [tstA t]⟩)], [v]⟩)) ?_ ?_
        · skip
          refine AWp.cond _ rfl (fun hc5 => ?_) (fun hc5 => ?_)
          · skip
            try simp only [decide_eq_true_eq, decide_eq_false_iff_not, Bool.not_eq_true', Bool.not_eq_false', Bool.and_eq_true, Bool.or_eq_true, Bool.and_eq_false_iff, Bool.or_eq_false_iff, Int.not_lt, Int.not_le, beq_iff_eq, beq_eq_false_iff_ne, ne_eq, Bool.not_eq_true, Bool.not_eq_false] at hc5
            have hg : mT t = [tG (tabW matWs t.mat)] := if_pos hc5
            have hgl := congrArg List.length hg
            simp only [List.length_cons, List.length_nil] at hgl
            refine AWp.rk fun K27 hK27 => ?_
            try simp only [go_sem, fb3, ft1]
            (repeat (with_reducible refine And.intro ?_ ?_; (first | omega | (intro _; omega) | decide | (exact nfB) | (intro hg; refine ⟨hg, ?_⟩; omega) | (simp; done) | (simp; omega))))
            refine DW.pcr rfl rfl rfl rfl (matchWord_c T _ (by omega) (by omega)) rfl rfl ?_
            try simp only [go_sem, fb3, ft1]
            (repeat (with_reducible refine And.intro ?_ ?_; (first | omega | (intro _; omega) | decide | (exact nfB) | (intro hg; refine ⟨hg, ?_⟩; omega) | (simp; done) | (simp; omega))))
            refine DW.pcr rfl rfl rfl rfl (tok_c T _ _) rfl rfl ?_
            try simp only [go_sem, fb3, ft1]
            (repeat (with_reducible refine And.intro ?_ ?_; (first | omega | (intro _; omega) | decide | (exact nfB) | (intro hg; refine ⟨hg, ?_⟩; omega) | (simp; done) | (simp; omega))))
            refine DW.app rfl rfl rfl rfl (show slI Tryd.prog 28 = some (108, 3, 32) by simp only [go_sem]) rfl rfl (by simp only [go_sem, fb3, ft1]) (by first | exact .inl rfl | exact .inr rfl) (by first | (simp only [go_sem, List.length_append, List.length_cons, List.length_nil] <;> omega) | (simp <;> omega)) (by first | (simp only [go_sem, List.length_append, List.length_cons, List.length_nil] <;> omega) | (simp <;> omega)) fun t9 ft9 => ?_
            try simp only [freshT] at ft9
            try simp only [go_sem, fb3, ft1, ft9]
            (repeat (with_reducible refine And.intro ?_ ?_; (first | omega | (intro _; omega) | decide | (exact nfB) | (intro hg; refine ⟨hg, ?_⟩; omega) | (simp; done) | (simp; omega))))
            refine hK27 _ _ ?_
            try clear hK27 K27
            refine thenQ_n ?_
            refine EndS.mk [true] [false, true] [] [] [] [t9] rfl ?_ ?_
            · (try simp only [go_sem, fb3, ft1, ft9]) <;> try rfl
            refine .e ⟨t9, ?_, ?_⟩
            · (try simp only [go_sem, fb3, ft1, ft9]) <;> first | exact ⟨rfl⟩ | (constructor; first | (rw [st2, hg]; simp [toksD, tokD, tG, tW, tN, st0]; done) | (rw [st2, hg]; simp [toksD, tokD, tG, tW, tN, st0, hc9]))
            · (try simp only [go_sem, fb3, ft1, ft9]) <;> first | exact ⟨rfl⟩ | (constructor; grind)
          · skip
            try simp only [decide_eq_true_eq, decide_eq_false_iff_not, Bool.not_eq_true', Bool.not_eq_false', Bool.and_eq_true, Bool.or_eq_true, Bool.and_eq_false_iff, Bool.or_eq_false_iff, Int.not_lt, Int.not_le, beq_iff_eq, beq_eq_false_iff_ne, ne_eq, Bool.not_eq_true, Bool.not_eq_false] at hc5
            have hg : mT t = [] := if_neg (show ¬ 0 < t.mat by omega)
            refine AWp.skip ?_
            refine thenQ_n ?_
            refine EndS.mk [true] [false, true] [] [] [] [v] rfl ?_ ?_
            · (try simp only [go_sem, fb3, ft1]) <;> try rfl
            refine .e ⟨v, ?_, ?_⟩
            · (try simp only [go_sem, fb3, ft1]) <;> first | exact ⟨rfl⟩ | (constructor; first | (rw [st2, hg]; simp [toksD, tokD, tG, tW, tN, st0]; done) | (rw [st2, hg]; simp [toksD, tokD, tG, tW, tN, st0, hc9]))
            · (try simp only [go_sem, fb3, ft1]) <;> first | exact ⟨rfl⟩ | (constructor; grind)
        · rintro _ _ ⟨v, ⟨rfl⟩, ⟨rfl⟩⟩
          simp only [go_sem]
          refine AWp.seq fun K28 hK28 => ?_
          refine AWp.rs fun K29 hK29 => ?_
          try simp only [go_sem, fb3, ft1]
          (repeat (with_reducible refine And.intro ?_ ?_; (first | omega | (intro _; omega) | decide | (exact nfB) | (intro hg; refine ⟨hg, ?_⟩; omega) | (simp; done) | (simp; omega))))
          refine hK29 _ _ ?_
          try clear hK29 K29
          refine AWp.mask [true, true, false, false, false, true] rfl ?_
          simp only [go_sem]
          refine AWp.joinK hK28 [true] (fun lc hc => ∃ (v : Nat), EqS lc [(3, .own v 3 (toksD (st3 t)))] ∧ EqS hc (⟨[(b3, ⟨8, 1, [tstA t]⟩)], [v]⟩)) ?_ ?_
          · skip
            refine AWp.cond _ rfl (fun hc6 => ?_) (fun hc6 => ?_)
            · skip
              try simp only [decide_eq_true_eq, decide_eq_false_iff_not, Bool.not_eq_true', Bool.not_eq_false', Bool.and_eq_true, Bool.or_eq_true, Bool.and_eq_false_iff, Bool.or_eq_false_iff, Int.not_lt, Int.not_le, beq_iff_eq, beq_eq_false_iff_ne, ne_eq, Bool.not_eq_true, Bool.not_eq_false] at hc6
              have hg : nT t = strsT t.names := if_pos hc6
              have hgl := congrArg List.length hg
              refine AWp.rk fun K30 hK30 => ?_
              try simp only [go_sem, fb3, ft1]
              (repeat (with_reducible refine And.intro ?_ ?_; (first | omega | (intro _; omega) | decide | (exact nfB) | (intro hg; refine ⟨hg, ?_⟩; omega) | (simp; done) | (simp; omega))))
              refine DW.pcr rfl rfl rfl rfl (strsShown_c T _ (by omega) (by omega)) rfl rfl ?_
              try simp only [go_sem, fb3, ft1]
              (repeat (with_reducible refine And.intro ?_ ?_; (first | omega | (intro _; omega) | decide | (exact nfB) | (intro hg; refine ⟨hg, ?_⟩; omega) | (simp; done) | (simp; omega))))
              refine DW.app rfl rfl rfl rfl (show slI Tryd.prog 28 = some (108, 3, 32) by simp only [go_sem]) rfl rfl (by simp only [go_sem, fb3, ft1]) (by first | exact .inl rfl | exact .inr rfl) (by first | (simp only [go_sem, List.length_append, List.length_cons, List.length_nil] <;> omega) | (simp <;> omega)) (by first | (simp only [go_sem, List.length_append, List.length_cons, List.length_nil] <;> omega) | (simp <;> omega)) fun t10 ft10 => ?_
              try simp only [freshT] at ft10
              try simp only [go_sem, fb3, ft1, ft10]
              (repeat (with_reducible refine And.intro ?_ ?_; (first | omega | (intro _; omega) | decide | (exact nfB) | (intro hg; refine ⟨hg, ?_⟩; omega) | (simp; done) | (simp; omega))))
              refine hK30 _ _ ?_
              try clear hK30 K30
              refine thenQ_n ?_
              refine EndS.mk [true] [false, true] [] [] [] [t10] rfl ?_ ?_
              · (try simp only [go_sem, fb3, ft1, ft10]) <;> try rfl
              refine .e ⟨t10, ?_, ?_⟩
              · (try simp only [go_sem, fb3, ft1, ft10]) <;> first | exact ⟨rfl⟩ | (constructor; first | (rw [st3, hg]; simp [toksD, tokD, tG, tW, tN, st0]; done) | (rw [st3, hg]; simp [toksD, tokD, tG, tW, tN, st0, hc9]))
              · (try simp only [go_sem, fb3, ft1, ft10]) <;> first | exact ⟨rfl⟩ | (constructor; grind)
            · skip
              try simp only [decide_eq_true_eq, decide_eq_false_iff_not, Bool.not_eq_true', Bool.not_eq_false', Bool.and_eq_true, Bool.or_eq_true, Bool.and_eq_false_iff, Bool.or_eq_false_iff, Int.not_lt, Int.not_le, beq_iff_eq, beq_eq_false_iff_ne, ne_eq, Bool.not_eq_true, Bool.not_eq_false] at hc6
              have hg : nT t = [] := if_neg (show ¬ 0 < (t.names.length : Int) by omega)
              refine AWp.skip ?_
              refine thenQ_n ?_
              refine EndS.mk [true] [false, true] [] [] [] [v] rfl ?_ ?_
              · (try simp only [go_sem, fb3, ft1]) <;> try rfl
              refine .e ⟨v, ?_, ?_⟩
              · (try simp only [go_sem, fb3, ft1]) <;> first | exact ⟨rfl⟩ | (constructor; first | (rw [st3, hg]; simp [toksD, tokD, tG, tW, tN, st0]; done) | (rw [st3, hg]; simp [toksD, tokD, tG, tW, tN, st0, hc9]))
              · (try simp only [go_sem, fb3, ft1]) <;> first | exact ⟨rfl⟩ | (constructor; grind)
          · rintro _ _ ⟨v, ⟨rfl⟩, ⟨rfl⟩⟩
            simp only [go_sem]
            refine AWp.seq fun K31 hK31 => ?_
            refine AWp.rs fun K32 hK32 => ?_
            try simp only [go_sem, fb3, ft1]
            (repeat (with_reducible refine And.intro ?_ ?_; (first | omega | (intro _; omega) | decide | (exact nfB) | (intro hg; refine ⟨hg, ?_⟩; omega) | (simp; done) | (simp; omega))))
            refine hK32 _ _ ?_
            try clear hK32 K32
            refine AWp.mask [true, true, false, false, false, true] rfl ?_
            simp only [go_sem]
            refine AWp.joinK hK31 [true] (fun lc hc => ∃ (v : Nat), EqS lc [(3, .own v 3 (toksD (st4 t)))] ∧ EqS hc (⟨[(b3, ⟨8, 1, [tstA t]⟩)], [v]⟩)) ?_ ?_
            · skip
              refine AWp.cond _ rfl (fun hc7 => ?_) (fun hc7 => ?_)
              · skip
                try simp only [decide_eq_true_eq, decide_eq_false_iff_not, Bool.not_eq_true', Bool.not_eq_false', Bool.and_eq_true, Bool.or_eq_true, Bool.and_eq_false_iff, Bool.or_eq_false_iff, Int.not_lt, Int.not_le, beq_iff_eq, beq_eq_false_iff_ne, ne_eq, Bool.not_eq_true, Bool.not_eq_false] at hc7
                have hg : kT t = strsT t.keys := if_pos hc7
                have hgl := congrArg List.length hg
                refine AWp.rk fun K33 hK33 => ?_
                try simp only [go_sem, fb3, ft1]
                (repeat (with_reducible refine And.intro ?_ ?_; (first | omega | (intro _; omega) | decide | (exact nfB) | (intro hg; refine ⟨hg, ?_⟩; omega) | (simp; done) | (simp; omega))))
                refine DW.pcr rfl rfl rfl rfl (strsShown_c T _ (by omega) (by omega)) rfl rfl ?_
                try simp only [go_sem, fb3, ft1]
                (repeat (with_reducible refine And.intro ?_ ?_; (first | omega | (intro _; omega) | decide | (exact nfB) | (intro hg; refine ⟨hg, ?_⟩; omega) | (simp; done) | (simp; omega))))
                refine DW.app rfl rfl rfl rfl (show slI Tryd.prog 28 = some (108, 3, 32) by simp only [go_sem]) rfl rfl (by simp only [go_sem, fb3, ft1]) (by first | exact .inl rfl | exact .inr rfl) (by first | (simp only [go_sem, List.length_append, List.length_cons, List.length_nil] <;> omega) | (simp <;> omega)) (by first | (simp only [go_sem, List.length_append, List.length_cons, List.length_nil] <;> omega) | (simp <;> omega)) fun t11 ft11 => ?_
                try simp only [freshT] at ft11
                try simp only [go_sem, fb3, ft1, ft11]
                (repeat (with_reducible refine And.intro ?_ ?_; (first | omega | (intro _; omega) | decide | (exact nfB) | (intro hg; refine ⟨hg, ?_⟩; omega) | (simp; done) | (simp; omega))))
                refine hK33 _ _ ?_
                try clear hK33 K33
                refine thenQ_n ?_
                refine EndS.mk [true] [false, true] [] [] [] [t11] rfl ?_ ?_
                · (try simp only [go_sem, fb3, ft1, ft11]) <;> try rfl
                refine .e ⟨t11, ?_, ?_⟩
                · (try simp only [go_sem, fb3, ft1, ft11]) <;> first | exact ⟨rfl⟩ | (constructor; first | (rw [st4, hg]; simp [toksD, tokD, tG, tW, tN, st0]; done) | (rw [st4, hg]; simp [toksD, tokD, tG, tW, tN, st0, hc9]))
                · (try simp only [go_sem, fb3, ft1, ft11]) <;> first | exact ⟨rfl⟩ | (constructor; grind)
              · skip
                try simp only [decide_eq_true_eq, decide_eq_false_iff_not, Bool.not_eq_true', Bool.not_eq_false', Bool.and_eq_true, Bool.or_eq_true, Bool.and_eq_false_iff, Bool.or_eq_false_iff, Int.not_lt, Int.not_le, beq_iff_eq, beq_eq_false_iff_ne, ne_eq, Bool.not_eq_true, Bool.not_eq_false] at hc7
                have hg : kT t = [] := if_neg (show ¬ 0 < (t.keys.length : Int) by omega)
                refine AWp.skip ?_
                refine thenQ_n ?_
                refine EndS.mk [true] [false, true] [] [] [] [v] rfl ?_ ?_
                · (try simp only [go_sem, fb3, ft1]) <;> try rfl
                refine .e ⟨v, ?_, ?_⟩
                · (try simp only [go_sem, fb3, ft1]) <;> first | exact ⟨rfl⟩ | (constructor; first | (rw [st4, hg]; simp [toksD, tokD, tG, tW, tN, st0]; done) | (rw [st4, hg]; simp [toksD, tokD, tG, tW, tN, st0, hc9]))
                · (try simp only [go_sem, fb3, ft1]) <;> first | exact ⟨rfl⟩ | (constructor; grind)
            · rintro _ _ ⟨v, ⟨rfl⟩, ⟨rfl⟩⟩
              simp only [go_sem]
              refine AWp.seq fun K34 hK34 => ?_
              refine AWp.rs fun K35 hK35 => ?_
              try simp only [go_sem, fb3, ft1]
              (repeat (with_reducible refine And.intro ?_ ?_; (first | omega | (intro _; omega) | decide | (exact nfB) | (intro hg; refine ⟨hg, ?_⟩; omega) | (simp; done) | (simp; omega))))
              refine hK35 _ _ ?_
              try clear hK35 K35
              refine AWp.mask [true, true, false, false, true] rfl ?_
              simp only [go_sem]
              refine AWp.joinK hK34 [] (fun lc hc => ∃ (v : Nat), EqS lc [(3, .own v 3 (toksD (st5 t)))] ∧ EqS hc (⟨[(b3, ⟨8, 1, [tstA t]⟩)], [v]⟩)) ?_ ?_
              · skip
                refine AWp.cond _ rfl (fun hc8 => ?_) (fun hc8 => ?_)
                · skip
                  try simp only [decide_eq_true_eq, decide_eq_false_iff_not, Bool.not_eq_true', Bool.not_eq_false', Bool.and_eq_true, Bool.or_eq_true, Bool.and_eq_false_iff, Bool.or_eq_false_iff, Int.not_lt, Int.not_le, beq_iff_eq, beq_eq_false_iff_ne, ne_eq, Bool.not_eq_true, Bool.not_eq_false] at hc8
                  have hg : zT t = [tG (if t.over = true then [111, 118, 101, 114] else [117, 110, 100, 101, 114]), tN t.limit] := if_pos hc8
                  have hgl := congrArg List.length hg
                  simp only [List.length_cons, List.length_nil] at hgl
                  refine AWp.rs fun K36 hK36 => ?_
                  try simp only [go_sem, fb3, ft1]
                  (repeat (with_reducible refine And.intro ?_ ?_; (first | omega | (intro _; omega) | decide | (exact nfB) | (intro hg; refine ⟨hg, ?_⟩; omega) | (simp; done) | (simp; omega))))
                  refine hK36 _ _ ?_
                  try clear hK36 K36
                  refine AWp.seq fun K37 hK37 => ?_
                  refine AWp.rs fun K38 hK38 => ?_
                  try simp only [go_sem, fb3, ft1]
                  (repeat (with_reducible refine And.intro ?_ ?_; (first | omega | (intro _; omega) | decide | (exact nfB) | (intro hg; refine ⟨hg, ?_⟩; omega) | (simp; done) | (simp; omega))))
                  refine hK38 _ _ ?_
                  try clear hK38 K38
                  refine AWp.cond _ rfl (fun hc9 => ?_) (fun hc9 => ?_)
                  · skip
                    try simp only [decide_eq_true_eq, decide_eq_false_iff_not, Bool.not_eq_true', Bool.not_eq_false', Bool.and_eq_true, Bool.or_eq_true, Bool.and_eq_false_iff, Bool.or_eq_false_iff, Int.not_lt, Int.not_le, beq_iff_eq, beq_eq_false_iff_ne, ne_eq, Bool.not_eq_true, Bool.not_eq_false] at hc9
                    refine AWp.rk fun K39 hK39 => ?_
                    try simp only [go_sem, fb3, ft1]
                    (repeat (with_reducible refine And.intro ?_ ?_; (first | omega | (intro _; omega) | decide | (exact nfB) | (intro hg; refine ⟨hg, ?_⟩; omega) | (simp; done) | (simp; omega))))
                    refine hK39 _ _ ?_
                    try clear hK39 K39
                    refine thenQ_n ?_
                    refine hK37 _ _ ?_
                    try clear hK37 K37
                    refine AWp.dk true [0, 1, 2, 3, 4, 5, 6, 7, 8] rfl (by kernel_rfl) fun K40 hK40 => ?_
                    try simp only [go_sem, fb3, ft1]
                    (repeat (with_reducible refine And.intro ?_ ?_; (first | omega | (intro _; omega) | decide | (exact nfB) | (intro hg; refine ⟨hg, ?_⟩; omega) | (simp; done) | (simp; omega))))
                    refine DW.pcr rfl rfl rfl rfl (tok_c T _ _) rfl rfl ?_
                    try simp only [go_sem, fb3, ft1]
                    (repeat (with_reducible refine And.intro ?_ ?_; (first | omega | (intro _; omega) | decide | (exact nfB) | (intro hg; refine ⟨hg, ?_⟩; omega) | (simp; done) | (simp; omega))))
                    refine DW.app rfl rfl rfl rfl (show slI Tryd.prog 28 = some (108, 3, 32) by simp only [go_sem]) rfl rfl (by simp only [go_sem, fb3, ft1]) (by first | exact .inl rfl | exact .inr rfl) (by first | (simp only [go_sem, List.length_append, List.length_cons, List.length_nil] <;> omega) | (simp <;> omega)) (by first | (simp only [go_sem, List.length_append, List.length_cons, List.length_nil] <;> omega) | (simp <;> omega)) fun t12 ft12 => ?_
                    try simp only [freshT] at ft12
                    try simp only [go_sem, fb3, ft1, ft12]
                    (repeat (with_reducible refine And.intro ?_ ?_; (first | omega | (intro _; omega) | decide | (exact nfB) | (intro hg; refine ⟨hg, ?_⟩; omega) | (simp; done) | (simp; omega))))
                    refine hK40 _ _ ?_
                    try clear hK40 K40
                    refine thenQ_n ?_
                    refine EndS.mk [] [false, true] [] [] [] [t12] rfl ?_ ?_
                    · (try simp only [go_sem, fb3, ft1, ft12]) <;> try rfl
                    refine .e ⟨t12, ?_, ?_⟩
                    · (try simp only [go_sem, fb3, ft1, ft12]) <;> first | exact ⟨rfl⟩ | (constructor; first | (rw [st5, hg]; simp [toksD, tokD, tG, tW, tN, st0]; done) | (rw [st5, hg]; simp [toksD, tokD, tG, tW, tN, st0, hc9]))
                    · (try simp only [go_sem, fb3, ft1, ft12]) <;> first | exact ⟨rfl⟩ | (constructor; grind)
                  · skip
                    try simp only [decide_eq_true_eq, decide_eq_false_iff_not, Bool.not_eq_true', Bool.not_eq_false', Bool.and_eq_true, Bool.or_eq_true, Bool.and_eq_false_iff, Bool.or_eq_false_iff, Int.not_lt, Int.not_le, beq_iff_eq, beq_eq_false_iff_ne, ne_eq, Bool.not_eq_true, Bool.not_eq_false] at hc9
                    refine AWp.skip ?_
                    refine thenQ_n ?_
                    refine hK37 _ _ ?_
                    try clear hK37 K37
                    refine AWp.dk true [0, 1, 2, 3, 4, 5, 6, 7, 8] rfl (by kernel_rfl) fun K41 hK41 => ?_
                    try simp only [go_sem, fb3, ft1]
                    (repeat (with_reducible refine And.intro ?_ ?_; (first | omega | (intro _; omega) | decide | (exact nfB) | (intro hg; refine ⟨hg, ?_⟩; omega) | (simp; done) | (simp; omega))))
                    refine DW.pcr rfl rfl rfl rfl (tok_c T _ _) rfl rfl ?_
                    try simp only [go_sem, fb3, ft1]
                    (repeat (with_reducible refine And.intro ?_ ?_; (first | omega | (intro _; omega) | decide | (exact nfB) | (intro hg; refine ⟨hg, ?_⟩; omega) | (simp; done) | (simp; omega))))
                    refine DW.app rfl rfl rfl rfl (show slI Tryd.prog 28 = some (108, 3, 32) by simp only [go_sem]) rfl rfl (by simp only [go_sem, fb3, ft1]) (by first | exact .inl rfl | exact .inr rfl) (by first | (simp only [go_sem, List.length_append, List.length_cons, List.length_nil] <;> omega) | (simp <;> omega)) (by first | (simp only [go_sem, List.length_append, List.length_cons, List.length_nil] <;> omega) | (simp <;> omega)) fun t13 ft13 => ?_
                    try simp only [freshT] at ft13
                    try simp only [go_sem, fb3, ft1, ft13]
                    (repeat (with_reducible refine And.intro ?_ ?_; (first | omega | (intro _; omega) | decide | (exact nfB) | (intro hg; refine ⟨hg, ?_⟩; omega) | (simp; done) | (simp; omega))))
                    refine hK41 _ _ ?_
                    try clear hK41 K41
                    refine thenQ_n ?_
                    refine EndS.mk [] [false, true] [] [] [] [t13] rfl ?_ ?_
                    · (try simp only [go_sem, fb3, ft1, ft13]) <;> try rfl
                    refine .e ⟨t13, ?_, ?_⟩
                    · (try simp only [go_sem, fb3, ft1, ft13]) <;> first | exact ⟨rfl⟩ | (constructor; first | (rw [st5, hg]; simp [toksD, tokD, tG, tW, tN, st0]; done) | (rw [st5, hg]; simp [toksD, tokD, tG, tW, tN, st0, hc9]))
                    · (try simp only [go_sem, fb3, ft1, ft13]) <;> first | exact ⟨rfl⟩ | (constructor; grind)
                · skip
                  try simp only [decide_eq_true_eq, decide_eq_false_iff_not, Bool.not_eq_true', Bool.not_eq_false', Bool.and_eq_true, Bool.or_eq_true, Bool.and_eq_false_iff, Bool.or_eq_false_iff, Int.not_lt, Int.not_le, beq_iff_eq, beq_eq_false_iff_ne, ne_eq, Bool.not_eq_true, Bool.not_eq_false] at hc8
                  have hg : zT t = [] := if_neg hc8
                  refine AWp.skip ?_
                  refine thenQ_n ?_
                  refine EndS.mk [] [false, true] [] [] [] [v] rfl ?_ ?_
                  · (try simp only [go_sem, fb3, ft1]) <;> try rfl
                  refine .e ⟨v, ?_, ?_⟩
                  · (try simp only [go_sem, fb3, ft1]) <;> first | exact ⟨rfl⟩ | (constructor; first | (rw [st5, hg]; simp [toksD, tokD, tG, tW, tN, st0]; done) | (rw [st5, hg]; simp [toksD, tokD, tG, tW, tN, st0, hc9]))
                  · (try simp only [go_sem, fb3, ft1]) <;> first | exact ⟨rfl⟩ | (constructor; grind)
              · rintro _ _ ⟨v, ⟨rfl⟩, ⟨rfl⟩⟩
                simp only [go_sem]
                refine AWp.rs fun K42 hK42 => ?_
                try simp only [go_sem, fb3, ft1]
                (repeat (with_reducible refine And.intro ?_ ?_; (first | omega | (intro _; omega) | decide | (exact nfB) | (intro hg; refine ⟨hg, ?_⟩; omega) | (simp; done) | (simp; omega))))
                refine hK42 _ _ ?_
                try clear hK42 K42
                refine AWp.ret ?_
                try simp only [go_sem, fb3, ft1]
                rw [hT]
theorem testShown_c (T : Tbl) (t : Tst) (ok : t.Ok) (d : Int) (hF : tF t d = 0) (hl : (tT t).length ≤ 4398046511104) : PC Tryd.prog T 181 [.agg (tstA t)] (.d (.slc 3 (toksD (tT t)))) := by
  induction t using Tst.ind generalizing d with
  | h t ih => exact testShown_step T t ok d hF hl fun x hx h => ih x hx (ok.inv.2.2.2 x hx) (d + 1) ((tF_ok hF).2.2 x hx) h
theorem lsT_mem (l : List Cmd) (x : Cmd) (h : x ∈ l) : (cmT x).length ≤ (lsT l).length := by
  induction l with
  | nil => simp at h
  | cons y l ih =>
    rw [lsT]
    simp only [List.length_cons, List.length_append]
    rcases List.mem_cons.1 h with rfl | h
    · omega
    · have := ih h; omega
theorem toksD_get (X : List Tok) (k : Nat) (d : List D) (h : k < X.length) : (toksD X).getD k d = tokD (X[k]'h) := map_getD tokD _ _ _ h
end Go.Proofs.YtnoboapafndnlaaDoor

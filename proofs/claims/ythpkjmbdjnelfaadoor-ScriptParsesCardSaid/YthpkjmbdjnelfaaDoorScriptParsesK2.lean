/- Texts that the law ScriptParses rests on, packed. -/
import Derived.Test.YthpkjmbdjnelfaaDoorScriptParsesK1
import Derived.Test.YthpkjmbdjnelfaaDoorScriptParsesK0
import Derived.Test.YthpkjmbdjnelfaaDoorGD
namespace Go.Proofs.YthpkjmbdjnelfaaDoor
set_option linter.unusedSimpArgs false
set_option linter.unusedVariables false
def nA : Unit → Nat → AV := fun _ n => .d (.int .i64 n)
def tA : Tk → Nat → AV := fun t n => .tup [.d (.str t.text), .d (.int .i64 n)]
def txA : List Tx → Nat → AV := fun t n => .tup [.d (.slc 1 (t.map strD)), .d (.int .i64 n)]
set_option maxRecDepth 4000 in
set_option maxHeartbeats 1000000 in
theorem pmark_c (T : Tbl) (b : Nat) (l : List Tk) (i : Nat) (F : List (Nat × Ob)) (L : List Nat) (s : Tx) (hn : i ≤ 499) : AC Tryd.prog T 93 [.ptr b 3 0 0, .d (.int .i64 (i : Nat)), .d (.str s)] (⟨pob b l 0 0 :: F, L⟩) (RE 500 b F L l nA (mustR l i s)) := by
  refine ⟨Tryd.call93, ACalls.enterS Tryd.func93 rfl Tryd.ntmps93 rfl fun hb => ?_⟩
  simp only [go_sem, Tryd.results93]
  refine AWp.rs fun K1 hK1 => ?_
  try simp only [go_sem]
  refine hK1 _ _ ?_
  try clear hK1 K1
  refine AWp.seq fun K2 hK2 => ?_
  refine AWp.rs fun K3 hK3 => ?_
  try simp only [go_sem]
  refine DW.acp [b] [] rfl rfl rfl rfl (by (try simp only [go_sem, pob]); rfl) rfl (pisMark_c T b l (i) _ _ _ _ s) ?_
  rintro _ _ ⟨rfl, rfl⟩
  try simp only [go_sem, pob]
  refine hK3 _ _ ?_
  try clear hK3 K3
  refine AWp.mask [true, true, false, false, false, false, false, true] rfl ?_
  simp only [go_sem]
  refine AWp.cond _ rfl (fun hc0 => ?_) (fun hc0 => ?_)
  · skip
    refine AWp.rs fun K4 hK4 => ?_
    try simp only [go_sem]
    (repeat (with_reducible refine And.intro ?_ ?_; omega))
    refine hK4 _ _ ?_
    try clear hK4 K4
    refine AWp.mask [false, false, true] rfl ?_
    simp only [go_sem]
    refine AWp.ret ?_
    try simp only [thenQ]
    apply endW_r [] [] [b] [] (by (try simp only [go_sem]); rfl)
    · refine ⟨(), (i + 1), 0, 0, rfl, by first | rfl | (simp only [go_sem, pob]; done) | (simp only [go_sem, pob]; rfl), by omega, ?_⟩
      rw [mustR, if_pos hc0]
      exact RR.ok_ _ _
    · simp [LeA, LeD, nA]
  · skip
    refine AWp.skip ?_
    refine thenQ_n ?_
    refine hK2 _ _ ?_
    try clear hK2 K2
    refine AWp.rs fun K5 hK5 => ?_
    try simp only [go_sem]
    refine DW.acp [b] [] rfl rfl rfl rfl (by (try simp only [go_sem, pob]); rfl) rfl (pstop_c T b l (i) _ _ 3 (by decide)) ?_
    rintro _ _ ⟨rfl, rfl⟩
    try simp only [go_sem, pob]
    refine hK5 _ _ ?_
    try clear hK5 K5
    refine AWp.mask [false, false, true] rfl ?_
    simp only [go_sem]
    refine AWp.ret ?_
    apply endW_r [] [] [b] [] (by (try simp only [go_sem]); rfl)
    · refine ⟨(), i, _, _, rfl, by first | rfl | (simp only [go_sem, pob]; done) | (simp only [go_sem, pob]; rfl), by omega, ?_⟩
      rw [mustR, if_neg (by simpa using hc0)]
      exact RR.er_ _ _ (gv_ne (by decide))
    · simp [LeA, LeD, nA]
set_option maxRecDepth 4000 in
set_option maxHeartbeats 1000000 in
theorem pstr_in (T : Tbl) (b : Nat) (l : List Tk) (i : Nat) (F : List (Nat × Ob)) (L : List Nat) (hl : i < l.length) (hn : i ≤ 499) : AC Tryd.prog T 92 [.ptr b 3 0 0, .d (.int .i64 (i : Nat))] (⟨pob b l 0 0 :: F, L⟩) (RE 500 b F L l tA (nextR l i 4)) := by
  refine ⟨Tryd.call92, ACalls.enterS Tryd.func92 rfl Tryd.ntmps92 rfl fun hb => ?_⟩
  have hlt : ((i : Int) < (l.length : Int)) = True := by simp; omega
  have hgd := tksD_gD l i [] hl
  have hge2 : l.getD i tk0 = l[i] := by simp [List.getD, List.getElem?_eq_getElem hl]
  simp only [go_sem, Tryd.results92]
  refine AWp.rs fun K1 hK1 => ?_
  try simp only [go_sem]
  refine hK1 _ _ ?_
  try clear hK1 K1
  refine AWp.seq fun K2 hK2 => ?_
  refine AWp.rs fun K3 hK3 => ?_
  try simp only [go_sem, hlt, hgd, tkD]
  refine hK3 _ _ ?_
  try clear hK3 K3
  refine AWp.mask [true, true, false, false, false, false, false, false, false, false, false, false, false, false, false, false, false, false, false, false, false, true] rfl ?_
  simp only [go_sem]
  refine AWp.cond _ rfl (fun hc0 => ?_) (fun hc0 => ?_)
  · skip
    try simp only [decide_eq_true_eq, Bool.and_eq_true] at hc0
    have hk1 : nx l i 4 = true := by simp [nx, hl]; first | exact hc0 | exact hc0.2
    refine AWp.rs fun K4 hK4 => ?_
    try simp only [go_sem, hlt, hgd, tkD]
    (repeat (with_reducible refine And.intro ?_ ?_; omega))
    refine hK4 _ _ ?_
    try clear hK4 K4
    refine AWp.mask [false, false, true, true] rfl ?_
    simp only [go_sem]
    refine AWp.ret ?_
    try simp only [thenQ]
    apply endW_r [] [] [b] [] (by (try simp only [go_sem]); rfl)
    · refine ⟨l[i], (i + 1), 0, 0, rfl, by first | rfl | (simp only [go_sem, pob]; done) | (simp only [go_sem, pob, hlt, hgd, tkD]; rfl), by omega, ?_⟩
      rw [nextR, if_pos hk1, hge2]
      exact RR.ok_ _ _
    · simp [LeA, LeL, LeD, tA]
  · skip
    try simp only [decide_eq_false_iff_not, Bool.and_eq_false_iff] at hc0
    have hw : nextR l i 4 = .err i 3 := by rw [nextR, if_neg (fun h => by simp [nx, hl] at h; first | exact hc0 h | (rcases hc0 with h3 | h3; exact h3.elim; exact h3 h) | (simp [h] at hc0))]
    refine AWp.skip ?_
    refine thenQ_n ?_
    refine hK2 _ _ ?_
    try clear hK2 K2
    refine AWp.rs fun K5 hK5 => ?_
    try simp only [go_sem]
    refine DW.acp [b] [] rfl rfl rfl rfl (by (try simp only [go_sem, pob]); rfl) rfl (pstop_c T b l (i) _ _ 3 (by decide)) ?_
    rintro _ _ ⟨rfl, rfl⟩
    try simp only [go_sem, pob]
    refine hK5 _ _ ?_
    try clear hK5 K5
    refine AWp.mask [false, false, true, true] rfl ?_
    simp only [go_sem]
    refine AWp.ret ?_
    apply endW_r [] [] [b] [] (by (try simp only [go_sem]); rfl)
    · refine ⟨tk0, i, _, _, rfl, by first | rfl | (simp only [go_sem, pob]; done) | (simp only [go_sem, pob]; rfl), by omega, ?_⟩
      rw [hw]
      exact RR.er_ _ _ (gv_ne (by decide))
    · simp [LeA, LeL, LeD, tA, tk0]
set_option maxRecDepth 4000 in
set_option maxHeartbeats 1000000 in
theorem pstr_out (T : Tbl) (b : Nat) (l : List Tk) (i : Nat) (F : List (Nat × Ob)) (L : List Nat) (hl : l.length ≤ i) (hn : i ≤ 499) : AC Tryd.prog T 92 [.ptr b 3 0 0, .d (.int .i64 (i : Nat))] (⟨pob b l 0 0 :: F, L⟩) (RE 500 b F L l tA (nextR l i 4)) := by
  refine ⟨Tryd.call92, ACalls.enterS Tryd.func92 rfl Tryd.ntmps92 rfl fun hb => ?_⟩
  have hlt : ((i : Int) < (l.length : Int)) = False := by simp; omega
  have hw : nextR l i 4 = .err i 3 := by rw [nextR, if_neg (by simp [nx, Nat.not_lt.2 hl])]
  simp only [go_sem, Tryd.results92]
  refine AWp.rs fun K1 hK1 => ?_
  try simp only [go_sem, true_and]
  refine hK1 _ _ ?_
  try clear hK1 K1
  refine AWp.seq fun K2 hK2 => ?_
  refine AWp.rs fun K3 hK3 => ?_
  try simp only [go_sem, hlt, decide_false, Bool.false_and, Bool.false_eq_true, false_imp_iff, true_and, and_true]
  refine hK3 _ _ ?_
  try clear hK3 K3
  refine AWp.mask [true, true, false, false, false, false, false, false, false, false, false, false, false, false, false, false, false, false, false, false, false, true] rfl ?_
  simp only [go_sem]
  refine AWp.cond _ rfl (fun hc0 => ?_) (fun hc0 => ?_)
  · skip
    exact absurd hc0 (by simp)
  · skip
    try simp only [] at hc0
    refine AWp.skip ?_
    refine thenQ_n ?_
    refine hK2 _ _ ?_
    try clear hK2 K2
    refine AWp.rs fun K4 hK4 => ?_
    try simp only [go_sem, true_and]
    refine DW.acp [b] [] rfl rfl rfl rfl (by (try simp only [go_sem, pob]); rfl) rfl (pstop_c T b l (i) _ _ 3 (by decide)) ?_
    rintro _ _ ⟨rfl, rfl⟩
    try simp only [go_sem, pob, true_and]
    refine hK4 _ _ ?_
    try clear hK4 K4
    refine AWp.mask [false, false, true, true] rfl ?_
    simp only [go_sem]
    refine AWp.ret ?_
    apply endW_r [] [] [b] [] (by (try simp only [go_sem]); rfl)
    · refine ⟨tk0, i, _, _, rfl, by first | rfl | (simp only [go_sem, pob]; done) | (simp only [go_sem, pob]; rfl), by omega, ?_⟩
      rw [hw]
      exact RR.er_ _ _ (gv_ne (by decide))
    · simp [LeA, LeL, LeD, tA, tk0]
theorem pstr_c (T : Tbl) (b : Nat) (l : List Tk) (i : Nat) (F : List (Nat × Ob)) (L : List Nat) (hn : i ≤ 499) : AC Tryd.prog T 92 [.ptr b 3 0 0, .d (.int .i64 (i : Nat))] ⟨pob b l 0 0 :: F, L⟩ (RE 500 b F L l tA (nextR l i 4)) := by
  rcases Nat.lt_or_ge i l.length with h | h
  · exact pstr_in T b l i F L h hn
  · exact pstr_out T b l i F L h hn
set_option maxRecDepth 4000 in
set_option maxHeartbeats 1000000 in
theorem pstrs_c (T : Tbl) (b : Nat) (l : List Tk) (i : Nat) (F : List (Nat × Ob)) (L : List Nat) (hl : l.length ≤ 400) (hn : i ≤ l.length) : AC Tryd.prog T 91 [.ptr b 3 0 0, .d (.int .i64 (i : Nat))] (⟨pob b l 0 0 :: F, L⟩) (RE 500 b F L l txA (strsR l i)) := by
  refine ⟨Tryd.call91, ACalls.enterS Tryd.func91 rfl Tryd.ntmps91 rfl fun hb => ?_⟩
  simp only [go_sem, Tryd.results91]
  refine AWp.rs fun K1 hK1 => ?_
  try simp only [go_sem]
  refine hK1 _ _ ?_
  try clear hK1 K1
  refine AWp.seq fun K2 hK2 => ?_
  refine AWp.rs fun K3 hK3 => ?_
  try simp only [go_sem]
  refine DW.acp [b] [] rfl rfl rfl rfl (by (try simp only [go_sem, pob]); rfl) rfl (pisMark_c T b l (i) _ _ _ _ [91]) ?_
  rintro _ _ ⟨rfl, rfl⟩
  try simp only [go_sem, pob]
  refine hK3 _ _ ?_
  try clear hK3 K3
  refine AWp.mask [true, true, false, false, false, false, false, true] rfl ?_
  simp only [go_sem]
  refine AWp.cond _ rfl (fun hc0 => ?_) (fun hc0 => ?_)
  · skip
    try simp only [Bool.not_eq_true'] at hc0
    have hb : isT l i 5 [91] = false := by simpa using hc0
    refine AWp.rs fun K4 hK4 => ?_
    try simp only [go_sem]
    refine DW.acp [b] [] rfl rfl rfl rfl (by (try simp only [go_sem, pob]); rfl) rfl (pstr_c T b l i _ _ (by omega)) ?_
    rintro _ _ ⟨a1, n1, f1, e1, rfl, rfl, ub1, r1⟩
    try simp only [go_sem, pob, tA]
    refine hK4 _ _ ?_
    try clear hK4 K4
    refine AWp.mask [false, false, true, true] rfl ?_
    simp only [go_sem]
    refine AWp.cut 1 fun K5 hK5 => ?_
    simp only [List.take_succ_cons, List.take_zero, List.drop_succ_cons, List.drop_zero]
    try simp only [go_sem]
    refine DW.bsO (he := by first | rfl | kernel_rfl) rfl rfl (show slI Tryd.prog 27 = some (9, 1, 16) by simp only [go_sem]) (by (try simp only [go_sem]); rfl) rfl (by decide) fun t1 ft1 => ?_
    try simp only [freshT] at ft1
    try simp only [go_sem]
    refine hK5 _ _ ?_
    try clear hK5 K5
    refine AWp.mask [true, true] rfl ?_
    simp only [go_sem]
    refine AWp.ret ?_
    try simp only [thenQ]
    apply endW_r [] [t1] [b] [] (by (try simp only [go_sem]); rfl)
    · refine ⟨[a1.text], n1, f1, e1, rfl, by first | rfl | (simp only [go_sem, pob]; done) | (simp only [go_sem, pob, tcast, nA, tA, ft1]; rfl), by omega, ?_⟩
      rw [sr_b hb]
      by_cases h9 : e1 = 0
      · refine r1.next (nextR_oof _ _ _) h9 ?_
        obtain ⟨_, rfl⟩ := r1.ok0 (nextR_oof _ _ _) h9
        subst h9
        exact RR.ok_ _ _
      · exact r1.thru (nextR_oof _ _ _) h9 _ _
    · simp [LeA, LeL, LeD, txA, strD]
  · skip
    try simp only [Bool.not_eq_false'] at hc0
    have hb : isT l i 5 [91] = true := by simpa using hc0
    have blt := isT_lt hb
    refine AWp.skip ?_
    refine thenQ_n ?_
    refine hK2 _ _ ?_
    try clear hK2 K2
    refine AWp.rs fun K6 hK6 => ?_
    try simp only [go_sem, tcast]
    (repeat (with_reducible refine And.intro ?_ ?_; omega))
    refine DW.acp [b] [] rfl rfl rfl rfl (by (try simp only [go_sem, pob]); rfl) rfl (pstr_c T b l (i + 1) _ _ (by omega)) ?_
    rintro _ _ ⟨a2, n2, f2, e2, rfl, rfl, ub2, r2⟩
    have l2 : e2 = 0 → n2 = i + 1 + 1 ∧ n2 ≤ l.length := fun h => by obtain ⟨q1, q2⟩ := r2.ok0 (nextR_oof _ _ _) h; obtain ⟨q3, q4, q5⟩ := nextR_ok q1; have := nx_lt q3; omega
    try simp only [go_sem, pob, tA]
    refine hK6 _ _ ?_
    try clear hK6 K6
    refine AWp.mask [true, false, true, true] rfl ?_
    simp only [go_sem]
    refine AWp.cut 1 fun K7 hK7 => ?_
    simp only [List.take_succ_cons, List.take_zero, List.drop_succ_cons, List.drop_zero]
    try simp only [go_sem]
    refine DW.bsO (he := by first | rfl | kernel_rfl) rfl rfl (show slI Tryd.prog 27 = some (9, 1, 16) by simp only [go_sem]) (by (try simp only [go_sem]); rfl) rfl (by decide) fun t2 ft2 => ?_
    try simp only [freshT] at ft2
    try simp only [go_sem]
    refine hK7 _ _ ?_
    try clear hK7 K7
    refine AWp.seq fun K8 hK8 => ?_
    refine AWp.block ?_
    refine AWp.mask [true, false, true, true] rfl ?_
    simp only [go_sem]
    refine AWp.loopS [true] [false, true, true] (fun n lc hc => ∃ (v w : Nat) (f e : Int) (acc : List Tx), n = (if e = 0 then l.length + 3 - v else 0) ∧ EqS lc [(9, .d (.int .i64 (v : Nat))), (10, .own w 1 (acc.map strD))] ∧ EqS hc (⟨pob b l f e :: F, w :: L⟩) ∧ (v ≤ 500) ∧ (acc.length ≤ 402) ∧ (freshT w L) ∧ (e = 0 → f = 0 ∧ v ≤ l.length ∧ acc.length ≤ v ∧ strsR l i = strsL l v acc) ∧ (¬ e = 0 → ∀ y m, RR l (strsR l i) y m f e)) rfl ?_ ?_
    · refine ⟨_, n2, t2, f2, e2, [a2.text], rfl, ?_, ?_, ?_, ?_, ?_, ?_, ?_⟩
      · (try simp only [go_sem]) <;> first | exact ⟨rfl⟩ | (constructor; simp; done)
      · (try simp only [go_sem, pob]) <;> first | exact ⟨rfl⟩ | (constructor; simp; done)
      all_goals (first | (intro h; rw [sr_c hb]; have := l2 h; refine ⟨(r2.ok0 (nextR_oof _ _ _) h).2, by omega, by simp; omega, ?_⟩; rw [(r2.ok0 (nextR_oof _ _ _) h).1, Rd.bind_ok]) | (intro h y m; rw [sr_c hb]; exact r2.thru (nextR_oof _ _ _) h _ _) | exact ft2 | omega | (simp; done))
    · rintro _ _ _ ⟨v, w, f, e, acc, rfl, ⟨rfl⟩, ⟨rfl⟩, h1, h2, h3, h4, h5⟩
      simp only [go_sem]
      refine AWp.seq fun K9 hK9 => ?_
      by_cases he : e = 0
      · skip
        subst he
        obtain ⟨rfl, hn2, ha, hs⟩ := h4 rfl
        refine AWp.rsG 8 fun K10 hK10 => ?_
        simp only [List.take_succ_cons, List.take_zero, List.drop_succ_cons, List.drop_zero]
        try simp only [go_sem, Bool.false_eq_true, if_false, eq_self, if_true]
        refine LV.gcall rfl rfl (by first | rfl | (simp only [go_sem, pob, tcast, nA, tA, ft2, Bool.false_eq_true, if_false, eq_self, if_true]; done) | (simp only [go_sem, pob, tcast, nA, tA, ft2, Bool.false_eq_true, if_false, eq_self, if_true]; rfl)) rfl rfl (by rfl) (LeH.refl _) (by first | rfl | (simp only [go_sem, pob, tcast, nA, tA, ft2, Bool.false_eq_true, if_false, eq_self, if_true]; done) | (simp only [go_sem, pob, tcast, nA, tA, ft2, Bool.false_eq_true, if_false, eq_self, if_true]; rfl)) (pisMark_c T b l (v) _ _ _ _ [44]) ?_
        rintro _ _ ⟨rfl, rfl⟩
        refine LV.leH (LeH.refl _) (LV.lvc ?_)
        try simp only [go_sem, pob, if_false, eq_self, if_true]
        refine hK10 _ _ ?_
        try clear hK10 K10
        refine AWp.mask [true, true, true, false, false, false, false, false, false, false, false, false, true] rfl ?_
        simp only [go_sem]
        refine AWp.cond _ rfl (fun hc1 => ?_) (fun hc1 => ?_)
        · skip
          try simp only [decide_eq_true_eq, Bool.and_eq_true] at hc1
          have him : isT l v 5 [44] = true := by simpa using hc1
          have jlt := isT_lt him
          refine AWp.skip ?_
          refine thenQ_n ?_
          refine hK9 _ _ ?_
          try clear hK9 K9
          refine AWp.block ?_
          refine AWp.rs fun K11 hK11 => ?_
          try simp only [go_sem, tcast, if_false, eq_self, if_true]
          (repeat (with_reducible refine And.intro ?_ ?_; omega))
          refine DW.acp [b] [] rfl rfl rfl rfl (by (try simp only [go_sem, pob, eq_self, if_true]); rfl) rfl (pstr_c T b l (v + 1) _ _ (by omega)) ?_
          rintro _ _ ⟨a3, n3, f3, e3, rfl, rfl, ub3, r3⟩
          have l3 : e3 = 0 → n3 = v + 1 + 1 ∧ n3 ≤ l.length := fun h => by obtain ⟨q1, q2⟩ := r3.ok0 (nextR_oof _ _ _) h; obtain ⟨q3, q4, q5⟩ := nextR_ok q1; have := nx_lt q3; omega
          try simp only [go_sem, pob, tA, if_false, eq_self, if_true]
          refine hK11 _ _ ?_
          try clear hK11 K11
          refine AWp.mask [true, true, true, true] rfl ?_
          simp only [go_sem]
          refine AWp.rk fun K12 hK12 => ?_
          try simp only [go_sem, if_false, eq_self, if_true]
          refine DW.app rfl rfl rfl rfl (show slI Tryd.prog 27 = some (9, 1, 16) by simp only [go_sem]) rfl rfl (by simp only [go_sem, eq_self]) (by first | exact .inl rfl | exact .inr rfl) (by (try simp only [go_sem]); (try simp only [List.length_map, List.length_append, List.length_cons, List.length_nil]); omega) (by (try simp only [go_sem]); (try simp only [List.length_map, List.length_append, List.length_cons, List.length_nil]); omega) fun t3 ft3 => ?_
          try simp only [freshT] at ft3
          try simp only [go_sem, if_false, eq_self, if_true]
          refine hK12 _ _ ?_
          try clear hK12 K12
          refine blkQ_n (thenQ_n ?_)
          refine EndS.mk [true] [false, false, true, true] [] [] [b] [t3] rfl ?_ ?_
          · (try simp only [go_sem, eq_self]) <;> try rfl
          refine .e ⟨_, ?_, n3, t3, f3, e3, (acc ++ [a3.text]), rfl, ?_, ?_, ?_, ?_, ?_, ?_, ?_⟩
          · first | omega | (simp; omega) | (have := l3; split <;> simp <;> omega)
          · (try simp only [go_sem]) <;> first | exact ⟨rfl⟩ | (constructor; simp [strD]; done)
          · (try simp only [go_sem, eq_self, if_true]) <;> first | exact ⟨rfl⟩ | (constructor; simp; done)
          · omega
          · simp; omega
          · first | exact ft3 | exact ft3.2
          · intro h; have := l3 h; refine ⟨(r3.ok0 (nextR_oof _ _ _) h).2, by omega, by simp; omega, ?_⟩; rw [hs, sl_b him, (r3.ok0 (nextR_oof _ _ _) h).1, Rd.bind_ok]
          · intro h y m; rw [hs, sl_b him]; exact r3.thru (nextR_oof _ _ _) h _ _
        · skip
          try simp only [decide_eq_false_iff_not, Bool.and_eq_false_iff] at hc1
          have him : isT l v 5 [44] = false := by simpa using hc1
          refine AWp.exit ?_
          refine thenQ_e (thenQ_e (blkQ_e (thenQ_n ?_)))
          refine hK8 _ _ ?_
          try clear hK8 K8
          refine AWp.seq fun K13 hK13 => ?_
          refine AWp.rs fun K14 hK14 => ?_
          try simp only [go_sem, Bool.false_eq_true, if_false, eq_self, if_true]
          refine hK14 _ _ ?_
          try clear hK14 K14
          refine AWp.mask [true, true, true, false, false, false, false, false, true] rfl ?_
          simp only [go_sem]
          refine AWp.cond _ rfl (fun hc2 => ?_) (fun hc2 => ?_)
          · skip
            try simp only [decide_eq_true_eq] at hc2
            refine AWp.rk fun K15 hK15 => ?_
            try simp only [go_sem, if_false, eq_self, if_true]
            refine DW.acp [b] [] rfl rfl rfl rfl (by (try simp only [go_sem, pob, eq_self, if_true]); rfl) rfl (pmark_c T b l v _ _ [93] (by omega)) ?_
            rintro _ _ ⟨a4, n4, f4, e4, rfl, rfl, ub4, r4⟩
            try simp only [go_sem, pob, nA, if_false, eq_self, if_true]
            refine hK15 _ _ ?_
            try clear hK15 K15
            refine thenQ_n ?_
            refine hK13 _ _ ?_
            try clear hK13 K13
            refine AWp.mask [false, true, true] rfl ?_
            simp only [go_sem]
            refine AWp.rs fun K16 hK16 => ?_
            try simp only [go_sem, if_false, eq_self, if_true]
            refine hK16 _ _ ?_
            try clear hK16 K16
            refine AWp.mask [true, true] rfl ?_
            simp only [go_sem]
            refine AWp.ret ?_
            apply endW_r [] [w] [b] [] (by (try simp only [go_sem, if_false, eq_self, if_true]); rfl)
            · refine ⟨acc, n4, f4, e4, rfl, by first | rfl | (simp only [go_sem, pob, eq_self, if_true]; done) | (simp only [go_sem, pob, tcast, nA, tA, ft2, Bool.false_eq_true, if_false, eq_self, if_true]; rfl), by omega, ?_⟩
              rw [hs, sl_f him]
              by_cases h9 : e4 = 0
              · refine r4.next (mustR_oof _ _ _) h9 ?_
                obtain ⟨_, rfl⟩ := r4.ok0 (mustR_oof _ _ _) h9
                subst h9
                exact RR.ok_ _ _
              · exact r4.thru (mustR_oof _ _ _) h9 _ _
            · simp [LeA, LeL, LeD, txA]
          · skip
            exact absurd hc2 (by simp)
      · skip
        refine AWp.rs fun K10 hK10 => ?_
        try simp only [go_sem, he, decide_false]
        refine DW.skipc rfl rfl ?_
        try simp only [go_sem]
        refine hK10 _ _ ?_
        try clear hK10 K10
        refine AWp.mask [true, true, true, false, false, false, false, false, false, false, false, false, true] rfl ?_
        simp only [go_sem]
        refine AWp.cond _ rfl (fun hc1 => ?_) (fun hc1 => ?_)
        · skip
          exact absurd hc1 (by simp)
        · skip
          try simp only [] at hc1
          refine AWp.exit ?_
          refine thenQ_e (thenQ_e (blkQ_e (thenQ_n ?_)))
          refine hK8 _ _ ?_
          try clear hK8 K8
          refine AWp.seq fun K17 hK17 => ?_
          refine AWp.rs fun K18 hK18 => ?_
          try simp only [go_sem, he, decide_false]
          refine hK18 _ _ ?_
          try clear hK18 K18
          refine AWp.mask [true, true, true, false, false, false, false, false, true] rfl ?_
          simp only [go_sem]
          refine AWp.cond _ rfl (fun hc2 => ?_) (fun hc2 => ?_)
          · skip
            exact absurd hc2 (by simp)
          · skip
            try simp only [] at hc2
            refine AWp.skip ?_
            refine thenQ_n ?_
            refine hK17 _ _ ?_
            try clear hK17 K17
            refine AWp.rs fun K19 hK19 => ?_
            try simp only [go_sem]
            refine hK19 _ _ ?_
            try clear hK19 K19
            refine AWp.mask [false, true, true] rfl ?_
            simp only [go_sem]
            refine AWp.ret ?_
            apply endW_r [] [w] [b] [] (by (try simp only [go_sem]); rfl)
            · refine ⟨acc, v, f, e, rfl, by first | rfl | (simp only [go_sem, pob]; done) | (simp only [go_sem, pob, tcast, nA, tA, ft2, he, decide_false]; rfl), by omega, ?_⟩
              exact h5 he _ _
            · simp [LeA, LeL, LeD, txA]
end Go.Proofs.YthpkjmbdjnelfaaDoor

namespace Go.Proofs.YthpkjmbdjnelfaaDoor
set_option linter.unusedSimpArgs false
set_option linter.unusedVariables false
theorem tabx_get (ws : List Tx) (k : Int) (h0 : 0 ≤ k) (h : k < ws.length) : (ws.map fun s => [D.str s]).getD k.toNat [] = [D.str (ws.getD k.toNat [])] := by
  have hk : k.toNat < ws.length := by omega
  simp [List.getD, hk]
def tsA : Tst → Nat → AV := fun t n => .tup [.agg (tstA t), .d (.int .i64 n)]
def cmpR (l : List Tk) (k : Int) (i : Nat) : Rd Tst := (tagS l k i 0 0).bind fun mp j1 => (strsR l j1).bind fun a j2 => (strsR l j2).bind fun c j3 => .ok (.mk k mp.1 mp.2 a c false 0 []) j3
set_option maxRecDepth 4000 in
set_option maxHeartbeats 1000000 in
theorem pcommandWord_c (T : Tbl) (k : Int) (h0 : 0 ≤ k) (h1 : k < 11) : PC Tryd.prog T 89 [.d (.int .i64 k)] (.d (.str (cmT.getD k.toNat []))) := by
  refine ⟨Tryd.call89, PCall.enterS Tryd.func89 rfl Tryd.ntmps89 rfl fun hb => ?_⟩
  have hw : List.getD [[D.str []], [D.str [114, 101, 113, 117, 105, 114, 101]], [D.str [105, 102]], [D.str [107, 101, 101, 112]], [D.str [100, 105, 115, 99, 97, 114, 100]], [D.str [102, 105, 108, 101, 105, 110, 116, 111]], [D.str [114, 101, 100, 105, 114, 101, 99, 116]], [D.str [114, 101, 106, 101, 99, 116]], [D.str [115, 101, 116, 102, 108, 97, 103]], [D.str [97, 100, 100, 102, 108, 97, 103]], [D.str [115, 116, 111, 112]]] k.toNat [] = [D.str (cmT.getD k.toNat [])] := tabx_get cmT k h0 h1
  simp only [go_sem, Tryd.results89]
  refine AWp.rs fun K1 hK1 => ?_
  try simp only [go_sem]
  refine hK1 _ _ ?_
  try clear hK1 K1
  refine AWp.rs fun K2 hK2 => ?_
  try simp only [go_sem, hw]
  (repeat (with_reducible refine And.intro ?_ ?_; omega))
  refine hK2 _ _ ?_
  try clear hK2 K2
  refine AWp.mask [false, true] rfl ?_
  simp only [go_sem]
  refine AWp.ret ?_
  try simp only [go_sem]
  skip
set_option maxRecDepth 4000 in
set_option maxHeartbeats 1000000 in
theorem ptestWord_c (T : Tbl) (k : Int) (h0 : 0 ≤ k) (h1 : k < 11) : PC Tryd.prog T 173 [.d (.int .i64 k)] (.d (.str (tsT.getD k.toNat []))) := by
  refine ⟨Tryd.call173, PCall.enterS Tryd.func173 rfl Tryd.ntmps173 rfl fun hb => ?_⟩
  have hw : List.getD [[D.str []], [D.str [116, 114, 117, 101]], [D.str [102, 97, 108, 115, 101]], [D.str [110, 111, 116]], [D.str [97, 108, 108, 111, 102]], [D.str [97, 110, 121, 111, 102]], [D.str [104, 101, 97, 100, 101, 114]], [D.str [97, 100, 100, 114, 101, 115, 115]], [D.str [101, 110, 118, 101, 108, 111, 112, 101]], [D.str [101, 120, 105, 115, 116, 115]], [D.str [115, 105, 122, 101]]] k.toNat [] = [D.str (tsT.getD k.toNat [])] := tabx_get tsT k h0 h1
  simp only [go_sem, Tryd.results173]
  refine AWp.rs fun K1 hK1 => ?_
  try simp only [go_sem]
  refine hK1 _ _ ?_
  try clear hK1 K1
  refine AWp.rs fun K2 hK2 => ?_
  try simp only [go_sem, hw]
  (repeat (with_reducible refine And.intro ?_ ?_; omega))
  refine hK2 _ _ ?_
  try clear hK2 K2
  refine AWp.mask [false, true] rfl ?_
  simp only [go_sem]
  refine AWp.ret ?_
  try simp only [go_sem]
  skip
set_option maxRecDepth 4000 in
set_option maxHeartbeats 1000000 in
theorem pmatchWord_c (T : Tbl) (k : Int) (h0 : 0 ≤ k) (h1 : k < 4) : PC Tryd.prog T 209 [.d (.int .i64 k)] (.d (.str (mtT.getD k.toNat []))) := by
  refine ⟨Tryd.call209, PCall.enterS Tryd.func209 rfl Tryd.ntmps209 rfl fun hb => ?_⟩
  have hw : List.getD [[D.str []], [D.str [105, 115]], [D.str [99, 111, 110, 116, 97, 105, 110, 115]], [D.str [109, 97, 116, 99, 104, 101, 115]]] k.toNat [] = [D.str (mtT.getD k.toNat [])] := tabx_get mtT k h0 h1
  simp only [go_sem, Tryd.results209]
  refine AWp.rs fun K1 hK1 => ?_
  try simp only [go_sem]
  refine hK1 _ _ ?_
  try clear hK1 K1
  refine AWp.rs fun K2 hK2 => ?_
  try simp only [go_sem, hw]
  (repeat (with_reducible refine And.intro ?_ ?_; omega))
  refine hK2 _ _ ?_
  try clear hK2 K2
  refine AWp.mask [false, true] rfl ?_
  simp only [go_sem]
  refine AWp.ret ?_
  try simp only [go_sem]
  skip
set_option maxRecDepth 4000 in
set_option maxHeartbeats 1000000 in
theorem ppartWord_c (T : Tbl) (k : Int) (h0 : 0 ≤ k) (h1 : k < 4) : PC Tryd.prog T 210 [.d (.int .i64 k)] (.d (.str (ptT.getD k.toNat []))) := by
  refine ⟨Tryd.call210, PCall.enterS Tryd.func210 rfl Tryd.ntmps210 rfl fun hb => ?_⟩
  have hw : List.getD [[D.str []], [D.str [97, 108, 108]], [D.str [108, 111, 99, 97, 108, 112, 97, 114, 116]], [D.str [100, 111, 109, 97, 105, 110]]] k.toNat [] = [D.str (ptT.getD k.toNat [])] := tabx_get ptT k h0 h1
  simp only [go_sem, Tryd.results210]
  refine AWp.rs fun K1 hK1 => ?_
  try simp only [go_sem]
  refine hK1 _ _ ?_
  try clear hK1 K1
  refine AWp.rs fun K2 hK2 => ?_
  try simp only [go_sem, hw]
  (repeat (with_reducible refine And.intro ?_ ?_; omega))
  refine hK2 _ _ ?_
  try clear hK2 K2
  refine AWp.mask [false, true] rfl ?_
  simp only [go_sem]
  refine AWp.ret ?_
  try simp only [go_sem]
  skip
set_option maxRecDepth 4000 in
set_option maxHeartbeats 1000000 in
theorem pcompares_c (T : Tbl) (b : Nat) (l : List Tk) (i : Nat) (k : Int) (F : List (Nat × Ob)) (L : List Nat) (hl : l.length ≤ 400) (hi : i ≤ l.length) : AC Tryd.prog T 174 [.ptr b 3 0 0, .agg [.d (.int .i64 k), .d (.int .i64 0), .d (.int .i64 0), .nils, .nils, .d (.bool false), .d (.int .i64 0), .nils], .d (.int .i64 (i : Nat))] (⟨pob b l 0 0 :: F, L⟩) (RE 500 b F L l tsA (cmpR l k i)) := by
  refine ⟨Tryd.call174, ACalls.enterS Tryd.func174 rfl Tryd.ntmps174 rfl fun hb => ?_⟩
  simp only [go_sem, Tryd.results174]
  refine AWp.rs fun K1 hK1 => ?_
  try simp only [go_sem]
  intro b4
  first | intro fb4 | have fb4 := True.intro
  try simp only [freshL] at fb4
  intro b6
  first | intro fb6 | have fb6 := True.intro
  try simp only [freshL] at fb6
  refine hK1 _ _ ?_
  try clear hK1 K1
  refine AWp.seq fun K2 hK2 => ?_
  refine AWp.block ?_
  refine AWp.mask [true, false, true, true, true] rfl ?_
  simp only [go_sem]
  refine AWp.loopS [true, false, true, true] [false, true] (fun n lc hc => ∃ (j : Nat) (m2 p2 : Int), n = l.length - j ∧ EqS lc [(2, .d (.int .i64 (j : Nat)))] ∧ EqS hc (⟨(b6, ⟨8, 1, [[.d (.int .i64 0), .d (.int .i64 0), .d (.int .i64 0), .nils, .nils, .d (.bool false), .d (.int .i64 0), .nils]]⟩) :: (b4, ⟨8, 1, [[.d (.int .i64 k), .d (.int .i64 m2), .d (.int .i64 p2), .nils, .nils, .d (.bool false), .d (.int .i64 0), .nils]]⟩) :: pob b l 0 0 :: F, L⟩) ∧ (j ≤ l.length) ∧ (tagS l k i 0 0 = tagS l k j m2 p2)) rfl ?_ ?_
  · refine ⟨_, i, 0, 0, rfl, ?_, ?_, ?_, ?_⟩
    · (try simp only [go_sem]) <;> first | exact ⟨rfl⟩ | (constructor; simp; done)
    · (try simp only [go_sem, pob]) <;> first | exact ⟨rfl⟩ | (constructor; simp; done)
    all_goals (first | omega | rfl)
  · rintro _ _ _ ⟨j, m2, p2, rfl, ⟨rfl⟩, ⟨rfl⟩, h1, h2⟩
    simp only [go_sem]
    refine AWp.seq fun K3 hK3 => ?_
    rcases Nat.lt_or_ge j l.length with hl2 | hl2
    · skip
      have hlt : ((j : Int) < (l.length : Int)) = True := by simp; omega
      have hgd := tksD_gD l j [] hl2
      have hge2 : l.getD j tk0 = l[j] := by simp [List.getD, List.getElem?_eq_getElem hl2]
      refine AWp.rs fun K4 hK4 => ?_
      try simp only [go_sem, Int.toNat_natCast, fb4, fb6, hlt, hgd, tkD]
      refine hK4 _ _ ?_
      try clear hK4 K4
      refine AWp.mask [true, true, true, true, false, false, false, false, false, false, false, false, false, false, false, false, false, false, false, false, false, true] rfl ?_
      simp only [go_sem]
      refine AWp.cond _ rfl (fun hc0 => ?_) (fun hc0 => ?_)
      · skip
        try simp only [decide_eq_true_eq, Bool.and_eq_true] at hc0
        have hx2 : nx l j 2 = true := by simp [nx, hl2]; first | exact hc0 | exact hc0.2
        refine AWp.skip ?_
        refine thenQ_n ?_
        refine hK3 _ _ ?_
        try clear hK3 K3
        refine AWp.block ?_
        refine AWp.rs fun K5 hK5 => ?_
        try simp only [go_sem, Int.toNat_natCast, fb4, fb6, hlt, hgd, tkD]
        refine hK5 _ _ ?_
        try clear hK5 K5
        refine AWp.mask [true, true, true, true, true] rfl ?_
        simp only [go_sem]
        refine AWp.rs fun K6 hK6 => ?_
        try simp only [go_sem]
        refine hK6 _ _ ?_
        try clear hK6 K6
        refine AWp.seq fun K7 hK7 => ?_
        refine AWp.rs fun K8 hK8 => ?_
        try simp only [go_sem]
        refine hK8 _ _ ?_
        try clear hK8 K8
        refine AWp.block ?_
        refine AWp.loopS [true, true, true, true, true] [false, false, false, false, false, true, true] (fun n lc hc => ∃ (q : Nat) (m3 p3 : Int) (kn : Bool), n = 4 - q ∧ EqS lc [(9, .d (.bool kn)), (10, .d (.int .i64 (q : Nat)))] ∧ EqS hc (⟨(b6, ⟨8, 1, [[.d (.int .i64 0), .d (.int .i64 0), .d (.int .i64 0), .nils, .nils, .d (.bool false), .d (.int .i64 0), .nils]]⟩) :: (b4, ⟨8, 1, [[.d (.int .i64 k), .d (.int .i64 m3), .d (.int .i64 p3), .nils, .nils, .d (.bool false), .d (.int .i64 0), .nils]]⟩) :: pob b l 0 0 :: F, L⟩) ∧ (1 ≤ q) ∧ (q ≤ 4) ∧ (CS (l[j]'hl2).text k m2 p2 q m3 p3 kn)) rfl ?_ ?_
        · refine ⟨_, 1, m2, p2, false, rfl, ?_, ?_, ?_, ?_, ?_⟩
          · (try simp only [go_sem]) <;> first | exact ⟨rfl⟩ | (constructor; simp; done)
          · (try simp only [go_sem, pob]) <;> first | exact ⟨rfl⟩ | (constructor; simp; done)
          all_goals (first | omega | exact CS_1 _ _ _ _)
        · rintro _ _ _ ⟨q, m3, p3, kn, rfl, ⟨rfl⟩, ⟨rfl⟩, h3, h4, h5⟩
          simp only [go_sem]
          refine AWp.seq fun K9 hK9 => ?_
          refine AWp.rs fun K10 hK10 => ?_
          try simp only [go_sem]
          refine hK10 _ _ ?_
          try clear hK10 K10
          refine AWp.cond _ rfl (fun hc1 => ?_) (fun hc1 => ?_)
          · skip
            try simp only [decide_eq_true_eq] at hc1
            refine AWp.skip ?_
            refine thenQ_n ?_
            refine hK9 _ _ ?_
            try clear hK9 K9
            refine AWp.seq fun K11 hK11 => ?_
            refine AWp.block ?_
            refine AWp.seq fun K12 hK12 => ?_
            refine AWp.rs fun K13 hK13 => ?_
            try simp only [go_sem]
            refine DW.pcr rfl rfl rfl rfl (pmatchWord_c T _ (by omega) (by omega)) rfl rfl ?_
            try simp only [go_sem, Int.toNat_natCast, fb4, fb6]
            refine hK13 _ _ ?_
            try clear hK13 K13
            refine AWp.mask [true, true, true, true, true, true, true, false, false, false, false, false, false, false, false, false, false, true] rfl ?_
            simp only [go_sem]
            refine AWp.cond _ rfl (fun hc2 => ?_) (fun hc2 => ?_)
            · skip
              try simp only [decide_eq_true_eq, Bool.and_eq_true] at hc2
              have xm : (l[j]'hl2).text = mtT.getD q [] ∧ m3 = 0 := hc2
              refine AWp.rs fun K14 hK14 => ?_
              try simp only [go_sem, fb4, fb6]
              refine hK14 _ _ ?_
              try clear hK14 K14
              refine AWp.mask [true, true, true, true, true, false, true] rfl ?_
              simp only [go_sem]
              refine AWp.rk fun K15 hK15 => ?_
              try simp only [go_sem]
              refine hK15 _ _ ?_
              try clear hK15 K15
              refine thenQ_n ?_
              refine hK12 _ _ ?_
              try clear hK12 K12
              refine AWp.rs fun K16 hK16 => ?_
              try simp only [go_sem]
              refine DW.pcr rfl rfl rfl rfl (ppartWord_c T _ (by omega) (by omega)) rfl rfl ?_
              try simp only [go_sem, Int.toNat_natCast, fb4, fb6]
              refine hK16 _ _ ?_
              try clear hK16 K16
              refine AWp.mask [true, true, true, true, true, true, true, false, false, false, false, false, false, false, false, false, false, false, false, false, true] rfl ?_
              simp only [go_sem]
              refine AWp.cond _ rfl (fun hc3 => ?_) (fun hc3 => ?_)
              · skip
                try simp only [decide_eq_true_eq, decide_eq_false_iff_not, Bool.not_eq_true', Bool.and_eq_true] at hc3
                have xp : ((l[j]'hl2).text = ptT.getD q [] ∧ p3 = 0) ∧ ¬ k = 6 := hc3
                refine AWp.rs fun K17 hK17 => ?_
                try simp only [go_sem, fb4, fb6]
                refine hK17 _ _ ?_
                try clear hK17 K17
                refine AWp.mask [true, true, true, true, true, false, true] rfl ?_
                simp only [go_sem]
                refine AWp.rk fun K18 hK18 => ?_
                try simp only [go_sem]
                refine hK18 _ _ ?_
                try clear hK18 K18
                refine blkQ_n (thenQ_n ?_)
                refine hK11 _ _ ?_
                try clear hK11 K11
                refine AWp.rk fun K19 hK19 => ?_
                try simp only [go_sem, tcast]
                (repeat (with_reducible refine And.intro ?_ ?_; omega))
                refine hK19 _ _ ?_
                try clear hK19 K19
                refine thenQ_n ?_
                refine EndS.mk [true, true, true, true, true] [false, false, false, false, false, true, true] [] [] [b6, b4, b] [] rfl ?_ ?_
                · (try simp only [go_sem]) <;> try rfl
                refine .e ⟨_, ?_, (q + 1), (q : Int), (q : Int), true, rfl, ?_, ?_, ?_, ?_, ?_⟩
                · first | omega | (simp; omega) | (grind)
                · (try simp only [go_sem]) <;> first | exact ⟨rfl⟩ | (constructor; simp; done)
                · (try simp only [go_sem, fb4, fb6]) <;> first | exact ⟨rfl⟩ | (constructor; simp; done)
                · omega
                · omega
                · exact CS_s h5 (by omega) (by omega) _ _ _ (by rw [if_pos xm]) (by rw [if_pos xp]) (by simp only [xm, xp]; simp)
              · skip
                try simp only [decide_eq_true_eq, decide_eq_false_iff_not, Bool.not_eq_false', Bool.and_eq_false_iff] at hc3
                have xp : ¬ (((l[j]'hl2).text = ptT.getD q [] ∧ p3 = 0) ∧ ¬ k = 6) := by rintro ⟨⟨h7, h8⟩, h9⟩; simp [h7, h8, h9] at hc3
                refine AWp.skip ?_
                refine blkQ_n (thenQ_n ?_)
                refine hK11 _ _ ?_
                try clear hK11 K11
                refine AWp.rk fun K20 hK20 => ?_
                try simp only [go_sem, tcast]
                (repeat (with_reducible refine And.intro ?_ ?_; omega))
                refine hK20 _ _ ?_
                try clear hK20 K20
                refine thenQ_n ?_
                refine EndS.mk [true, true, true, true, true] [false, false, false, false, false, true, true] [] [] [b6, b4, b] [] rfl ?_ ?_
                · (try simp only [go_sem]) <;> try rfl
                refine .e ⟨_, ?_, (q + 1), (q : Int), p3, true, rfl, ?_, ?_, ?_, ?_, ?_⟩
                · first | omega | (simp; omega) | (grind)
                · (try simp only [go_sem]) <;> first | exact ⟨rfl⟩ | (constructor; simp; done)
                · (try simp only [go_sem, fb4, fb6]) <;> first | exact ⟨rfl⟩ | (constructor; simp; done)
                · omega
                · omega
                · exact CS_s h5 (by omega) (by omega) _ _ _ (by rw [if_pos xm]) (by rw [if_neg xp]) (by simp only [xm]; simp)
            · skip
              try simp only [decide_eq_false_iff_not, Bool.and_eq_false_iff] at hc2
              have xm : ¬ ((l[j]'hl2).text = mtT.getD q [] ∧ m3 = 0) := by rintro ⟨h8, h9⟩; first | exact hc2 ⟨h8, h9⟩ | exact hc2 h8 h9 | exact hc2.elim (fun h7 => h7 h8) (fun h7 => h7 h9)
              refine AWp.skip ?_
              refine thenQ_n ?_
              refine hK12 _ _ ?_
              try clear hK12 K12
              refine AWp.rs fun K21 hK21 => ?_
              try simp only [go_sem]
              refine DW.pcr rfl rfl rfl rfl (ppartWord_c T _ (by omega) (by omega)) rfl rfl ?_
              try simp only [go_sem, Int.toNat_natCast, fb4, fb6]
              refine hK21 _ _ ?_
              try clear hK21 K21
              refine AWp.mask [true, true, true, true, true, true, true, false, false, false, false, false, false, false, false, false, false, false, false, false, false, true] rfl ?_
              simp only [go_sem]
              refine AWp.cond _ rfl (fun hc3 => ?_) (fun hc3 => ?_)
              · skip
                try simp only [decide_eq_true_eq, decide_eq_false_iff_not, Bool.not_eq_true', Bool.and_eq_true] at hc3
                have xp : ((l[j]'hl2).text = ptT.getD q [] ∧ p3 = 0) ∧ ¬ k = 6 := hc3
                refine AWp.rs fun K22 hK22 => ?_
                try simp only [go_sem, fb4, fb6]
                refine hK22 _ _ ?_
                try clear hK22 K22
                refine AWp.mask [true, true, true, true, true, false, true] rfl ?_
                simp only [go_sem]
                refine AWp.rk fun K23 hK23 => ?_
                try simp only [go_sem]
                refine hK23 _ _ ?_
                try clear hK23 K23
                refine blkQ_n (thenQ_n ?_)
                refine hK11 _ _ ?_
                try clear hK11 K11
                refine AWp.rk fun K24 hK24 => ?_
                try simp only [go_sem, tcast]
                (repeat (with_reducible refine And.intro ?_ ?_; omega))
                refine hK24 _ _ ?_
                try clear hK24 K24
                refine thenQ_n ?_
                refine EndS.mk [true, true, true, true, true] [false, false, false, false, false, true, true] [] [] [b6, b4, b] [] rfl ?_ ?_
                · (try simp only [go_sem]) <;> try rfl
                refine .e ⟨_, ?_, (q + 1), m3, (q : Int), true, rfl, ?_, ?_, ?_, ?_, ?_⟩
                · first | omega | (simp; omega) | (grind)
                · (try simp only [go_sem]) <;> first | exact ⟨rfl⟩ | (constructor; simp; done)
                · (try simp only [go_sem, fb4, fb6]) <;> first | exact ⟨rfl⟩ | (constructor; simp; done)
                · omega
                · omega
                · exact CS_s h5 (by omega) (by omega) _ _ _ (by rw [if_neg xm]) (by rw [if_pos xp]) (by simp only [xp]; simp)
              · skip
                try simp only [decide_eq_true_eq, decide_eq_false_iff_not, Bool.not_eq_false', Bool.and_eq_false_iff] at hc3
                have xp : ¬ (((l[j]'hl2).text = ptT.getD q [] ∧ p3 = 0) ∧ ¬ k = 6) := by rintro ⟨⟨h7, h8⟩, h9⟩; simp [h7, h8, h9] at hc3
                refine AWp.skip ?_
                refine blkQ_n (thenQ_n ?_)
                refine hK11 _ _ ?_
                try clear hK11 K11
                refine AWp.rk fun K25 hK25 => ?_
                try simp only [go_sem, tcast]
                (repeat (with_reducible refine And.intro ?_ ?_; omega))
                refine hK25 _ _ ?_
                try clear hK25 K25
                refine thenQ_n ?_
                refine EndS.mk [true, true, true, true, true] [false, false, false, false, false, true, true] [] [] [b6, b4, b] [] rfl ?_ ?_
                · (try simp only [go_sem]) <;> try rfl
                refine .e ⟨_, ?_, (q + 1), m3, p3, kn, rfl, ?_, ?_, ?_, ?_, ?_⟩
                · first | omega | (simp; omega) | (grind)
                · (try simp only [go_sem]) <;> first | exact ⟨rfl⟩ | (constructor; simp; done)
                · (try simp only [go_sem, fb4, fb6]) <;> first | exact ⟨rfl⟩ | (constructor; simp; done)
                · omega
                · omega
                · exact CS_s h5 (by omega) (by omega) _ _ _ (by rw [if_neg xm]) (by rw [if_neg xp]) (by simp only [xm, xp]; simp)
          · skip
            try simp only [decide_eq_false_iff_not, Int.not_le] at hc1
            obtain rfl : q = 4 := by omega
            refine AWp.exit ?_
            refine thenQ_e (thenQ_e (blkQ_e (thenQ_n ?_)))
            refine hK7 _ _ ?_
            try clear hK7 K7
            refine AWp.mask [true, true, true, true, false, true] rfl ?_
            simp only [go_sem]
            refine AWp.seq fun K26 hK26 => ?_
            refine AWp.rs fun K27 hK27 => ?_
            try simp only [go_sem]
            refine hK27 _ _ ?_
            try clear hK27 K27
            refine AWp.cond _ rfl (fun hc4 => ?_) (fun hc4 => ?_)
            · skip
              try simp only [Bool.not_eq_true'] at hc4
              have hf := CS_f h5 (by simpa using hc4)
              have hte : tagS l k i 0 0 = .err j 3 := by rw [h2, tg_e hx2 (by rw [hge2]; exact hf.1) (by rw [hge2]; exact hf.2)]
              refine AWp.dsN false [1, 2] [0] [3] 4 [5] rfl (by kernel_rfl) rfl fun K28 hK28 => ?_
              try simp only [go_sem]
              refine Exists.intro (fun h' : AH => getO b4 h'.objs = some ⟨8, 1, [[.d (.int .i64 k), .d (.int .i64 m3), .d (.int .i64 p3), .nils, .nils, .d (.bool false), .d (.int .i64 0), .nils]]⟩) (And.intro (by simp [getO, fb6]) ?_)
              try simp only [go_sem]
              refine FRN.ld rfl rfl (fun h' m1 => (by first | rfl | (simp only [go_sem, m1]; first | done | rfl | exact ⟨by omega, rfl⟩))) ?_
              try simp only [go_sem]
              refine FRN.nil ?_
              refine DW.acp [b] [] rfl rfl rfl rfl (by (try simp only [go_sem, pob, fb4, fb6]); rfl) rfl (pstop_c T b l (j) _ _ 3 (by decide)) ?_
              rintro _ _ ⟨rfl, rfl⟩
              try simp only [go_sem, pob, fb4, fb6]
              first | with_reducible refine And.intro (by simp [getO, pob, tcast, nA, tA, txA, Int.toNat_natCast, fb4, fb6, hlt, hgd, tkD]) ?_ | skip
              refine lvc_ok _ _ _ ?_
              try simp only [go_sem, fb6]
              refine hK28 _ _ ?_
              try clear hK28 K28
              refine AWp.mask [false, false, false, true, true] rfl ?_
              simp only [go_sem]
              refine AWp.ret ?_
              try simp only [thenQ, blkQ]
              apply endW_r [b4, b6] [] [b] [] (by (try simp only [go_sem, fb6]); rfl)
              · refine ⟨(.mk k m3 p3 [] [] false 0 []), j, _, _, rfl, by first | rfl | (simp only [go_sem, pob, fb4, fb6]; done) | (simp only [go_sem, pob, fb4, fb6]; rfl), by omega, ?_⟩
                rw [cmpR, hte, Rd.bind_er]
                exact RR.er_ _ _ (gv_ne (by decide))
              · simp [LeA, LeL, LeD, tstA, kidsD, kidsL_eq, Tst.kind, Tst.mat, Tst.part, Tst.names, Tst.keys, Tst.over, Tst.limit, tsA]
            · skip
              try simp only [Bool.not_eq_false'] at hc4
              refine AWp.skip ?_
              refine thenQ_n ?_
              refine hK26 _ _ ?_
              try clear hK26 K26
              refine AWp.rk fun K29 hK29 => ?_
              try simp only [go_sem, tcast]
              (repeat (with_reducible refine And.intro ?_ ?_; omega))
              refine hK29 _ _ ?_
              try clear hK29 K29
              refine blkQ_n (thenQ_n ?_)
              refine EndS.mk [true, false, true, true] [false, true] [] [] [b6, b4, b] [] rfl ?_ ?_
              · (try simp only [go_sem]) <;> try rfl
              refine .e ⟨_, ?_, (j + 1), m3, p3, rfl, ?_, ?_, ?_, ?_⟩
              · first | omega | (simp; omega) | (grind)
              · (try simp only [go_sem]) <;> first | exact ⟨rfl⟩ | (constructor; simp; done)
              · (try simp only [go_sem, fb4, fb6]) <;> first | exact ⟨rfl⟩ | (constructor; simp; done)
              · omega
              · rw [h2, CS_t h5 (by simpa using hc4) (by rw [hge2]) hx2]
      · skip
        try simp only [decide_eq_false_iff_not, Bool.and_eq_false_iff] at hc0
        have hx2 : nx l j 2 = false := by first | exact hx2 | (simp only [nx, hge2, Bool.and_eq_false_iff, decide_eq_false_iff_not]; rcases hc0 with h9 | h9; exact absurd trivial h9; exact .inr h9)
        refine AWp.exit ?_
        refine thenQ_e (thenQ_e (blkQ_e (thenQ_n ?_)))
        refine hK2 _ _ ?_
        try clear hK2 K2
        refine AWp.seq fun K30 hK30 => ?_
        refine AWp.rs fun K31 hK31 => ?_
        try simp only [go_sem, fb4, fb6]
        refine hK31 _ _ ?_
        try clear hK31 K31
        refine AWp.cond _ rfl (fun hc5 => ?_) (fun hc5 => ?_)
        · skip
          try simp only [decide_eq_true_eq] at hc5
          refine AWp.rk fun K32 hK32 => ?_
          try simp only [go_sem, fb4, fb6]
          refine hK32 _ _ ?_
          try clear hK32 K32
          refine thenQ_n ?_
          refine hK30 _ _ ?_
          try clear hK30 K30
          refine AWp.mask [true, true, true, true] rfl ?_
          simp only [go_sem]
          refine AWp.seq fun K33 hK33 => ?_
          refine AWp.rs fun K34 hK34 => ?_
          try simp only [go_sem, fb4, fb6]
          refine hK34 _ _ ?_
          try clear hK34 K34
          refine AWp.mask [true, true, true, true, false, false, false, false, false, false, false, true] rfl ?_
          simp only [go_sem]
          refine AWp.cond _ rfl (fun hc6 => ?_) (fun hc6 => ?_)
          · skip
            try simp only [decide_eq_true_eq, decide_eq_false_iff_not, Bool.not_eq_true', Bool.and_eq_true] at hc6
            have x6 : p2 = 0 ∧ ¬ k = 6 := hc6
            refine AWp.rk fun K35 hK35 => ?_
            try simp only [go_sem, fb4, fb6]
            refine hK35 _ _ ?_
            try clear hK35 K35
            refine thenQ_n ?_
            refine hK33 _ _ ?_
            try clear hK33 K33
            refine AWp.rs fun K36 hK36 => ?_
            try simp only [go_sem]
            refine DW.acp [b] [] rfl rfl rfl rfl (by (try simp only [go_sem, pob, fb4, fb6]); rfl) rfl (pstrs_c T b l j _ _ hl h1) ?_
            rintro _ _ ⟨a5, n5, f5, e5, rfl, rfl, ub5, r5⟩
            have hte : tagS l k i 0 0 = .ok (1, 1) j := by rw [h2, tg_0 hx2, if_pos hc5, if_pos x6]
            try simp only [go_sem, pob, txA, fb4, fb6]
            refine hK36 _ _ ?_
            try clear hK36 K36
            refine AWp.mask [true, true, true, true] rfl ?_
            simp only [go_sem]
            refine AWp.seq fun K37 hK37 => ?_
            refine AWp.rs fun K38 hK38 => ?_
            try simp only [go_sem, fb4, fb6]
            refine hK38 _ _ ?_
            try clear hK38 K38
            refine AWp.mask [true, true, true, true, false, false, false, false, true] rfl ?_
            simp only [go_sem]
            refine AWp.cond _ rfl (fun hc7 => ?_) (fun hc7 => ?_)
            · skip
              try simp only [decide_eq_true_eq] at hc7
              obtain ⟨o1, o2⟩ := r5.ok0 (strsR_oof _ _) hc7
              have o3 := strsR_le _ _ _ _ o1
              subst hc7 o2
              refine AWp.rk fun K39 hK39 => ?_
              try simp only [go_sem]
              refine DW.acp [b] [] rfl rfl rfl rfl (by (try simp only [go_sem, pob, fb4, fb6]); rfl) rfl (pstrs_c T b l n5 _ _ hl o3.2.1) ?_
              rintro _ _ ⟨a6, n6, f6, e6, rfl, rfl, ub6, r6⟩
              try simp only [go_sem, pob, txA, fb4, fb6]
              refine hK39 _ _ ?_
              try clear hK39 K39
              refine thenQ_n ?_
              refine hK37 _ _ ?_
              try clear hK37 K37
              refine AWp.mask [false, true, true, true] rfl ?_
              simp only [go_sem]
              refine AWp.rs fun K40 hK40 => ?_
              try simp only [go_sem, fb4, fb6]
              refine hK40 _ _ ?_
              try clear hK40 K40
              refine AWp.mask [false, false, true, true] rfl ?_
              simp only [go_sem]
              refine AWp.ret ?_
              apply endW_r [b4, b6] [] [b] [] (by (try simp only [go_sem, fb6]); rfl)
              · refine ⟨(.mk k 1 1 a5 a6 false 0 []), n6, f6, e6, rfl, by first | rfl | (simp only [go_sem, pob, fb4, fb6]; done) | (simp only [go_sem, pob, tcast, nA, tA, txA, Int.toNat_natCast, fb4, fb6, hlt, hgd, tkD]; rfl), by omega, ?_⟩
                rw [cmpR, hte, Rd.bind_ok, o1, Rd.bind_ok]
                by_cases h9 : e6 = 0
                · refine r6.next (strsR_oof _ _) h9 ?_
                  obtain ⟨_, rfl⟩ := r6.ok0 (strsR_oof _ _) h9
                  subst h9
                  exact RR.ok_ _ _
                · exact r6.thru (strsR_oof _ _) h9 _ _
              · simp [LeA, LeL, LeD, tstA, kidsD, kidsL_eq, Tst.kind, Tst.mat, Tst.part, Tst.names, Tst.keys, Tst.over, Tst.limit, tsA]
            · skip
              try simp only [decide_eq_false_iff_not] at hc7
              refine AWp.skip ?_
              refine thenQ_n ?_
              refine hK37 _ _ ?_
              try clear hK37 K37
              refine AWp.rs fun K41 hK41 => ?_
              try simp only [go_sem, fb4, fb6]
              refine hK41 _ _ ?_
              try clear hK41 K41
              refine AWp.mask [false, false, false, true, true] rfl ?_
              simp only [go_sem]
              refine AWp.ret ?_
              apply endW_r [b4, b6] [] [b] [] (by (try simp only [go_sem, fb6]); rfl)
              · refine ⟨(.mk k 1 1 a5 [] false 0 []), n5, f5, e5, rfl, by first | rfl | (simp only [go_sem, pob, fb4, fb6]; done) | (simp only [go_sem, pob, tcast, nA, tA, txA, Int.toNat_natCast, fb4, fb6, hlt, hgd, tkD]; rfl), by omega, ?_⟩
                rw [cmpR, hte, Rd.bind_ok]
                exact r5.thru (strsR_oof _ _) hc7 _ _
              · simp [LeA, LeL, LeD, tstA, kidsD, kidsL_eq, Tst.kind, Tst.mat, Tst.part, Tst.names, Tst.keys, Tst.over, Tst.limit, tsA]
          · skip
            try simp only [decide_eq_true_eq, decide_eq_false_iff_not, Bool.not_eq_false', Bool.and_eq_false_iff] at hc6
            have x6 : ¬ (p2 = 0 ∧ ¬ k = 6) := by rintro ⟨h8, h9⟩; simp [h8, h9] at hc6
            refine AWp.skip ?_
            refine thenQ_n ?_
            refine hK33 _ _ ?_
            try clear hK33 K33
            refine AWp.rs fun K42 hK42 => ?_
            try simp only [go_sem]
            refine DW.acp [b] [] rfl rfl rfl rfl (by (try simp only [go_sem, pob, fb4, fb6]); rfl) rfl (pstrs_c T b l j _ _ hl h1) ?_
            rintro _ _ ⟨a5, n5, f5, e5, rfl, rfl, ub5, r5⟩
            have hte : tagS l k i 0 0 = .ok (1, p2) j := by rw [h2, tg_0 hx2, if_pos hc5, if_neg x6]
            try simp only [go_sem, pob, txA, fb4, fb6]
            refine hK42 _ _ ?_
            try clear hK42 K42
            refine AWp.mask [true, true, true, true] rfl ?_
            simp only [go_sem]
            refine AWp.seq fun K43 hK43 => ?_
            refine AWp.rs fun K44 hK44 => ?_
            try simp only [go_sem, fb4, fb6]
            refine hK44 _ _ ?_
            try clear hK44 K44
            refine AWp.mask [true, true, true, true, false, false, false, false, true] rfl ?_
            simp only [go_sem]
            refine AWp.cond _ rfl (fun hc7 => ?_) (fun hc7 => ?_)
            · skip
              try simp only [decide_eq_true_eq] at hc7
              obtain ⟨o1, o2⟩ := r5.ok0 (strsR_oof _ _) hc7
              have o3 := strsR_le _ _ _ _ o1
              subst hc7 o2
              refine AWp.rk fun K45 hK45 => ?_
              try simp only [go_sem]
              refine DW.acp [b] [] rfl rfl rfl rfl (by (try simp only [go_sem, pob, fb4, fb6]); rfl) rfl (pstrs_c T b l n5 _ _ hl o3.2.1) ?_
              rintro _ _ ⟨a6, n6, f6, e6, rfl, rfl, ub6, r6⟩
              try simp only [go_sem, pob, txA, fb4, fb6]
              refine hK45 _ _ ?_
              try clear hK45 K45
              refine thenQ_n ?_
              refine hK43 _ _ ?_
              try clear hK43 K43
              refine AWp.mask [false, true, true, true] rfl ?_
              simp only [go_sem]
              refine AWp.rs fun K46 hK46 => ?_
              try simp only [go_sem, fb4, fb6]
              refine hK46 _ _ ?_
              try clear hK46 K46
              refine AWp.mask [false, false, true, true] rfl ?_
              simp only [go_sem]
              refine AWp.ret ?_
              apply endW_r [b4, b6] [] [b] [] (by (try simp only [go_sem, fb6]); rfl)
              · refine ⟨(.mk k 1 p2 a5 a6 false 0 []), n6, f6, e6, rfl, by first | rfl | (simp only [go_sem, pob, fb4, fb6]; done) | (simp only [go_sem, pob, tcast, nA, tA, txA, Int.toNat_natCast, fb4, fb6, hlt, hgd, tkD]; rfl), by omega, ?_⟩
                rw [cmpR, hte, Rd.bind_ok, o1, Rd.bind_ok]
                by_cases h9 : e6 = 0
                · refine r6.next (strsR_oof _ _) h9 ?_
                  obtain ⟨_, rfl⟩ := r6.ok0 (strsR_oof _ _) h9
                  subst h9
                  exact RR.ok_ _ _
                · exact r6.thru (strsR_oof _ _) h9 _ _
              · simp [LeA, LeL, LeD, tstA, kidsD, kidsL_eq, Tst.kind, Tst.mat, Tst.part, Tst.names, Tst.keys, Tst.over, Tst.limit, tsA]
            · skip
              try simp only [decide_eq_false_iff_not] at hc7
              refine AWp.skip ?_
              refine thenQ_n ?_
              refine hK43 _ _ ?_
              try clear hK43 K43
              refine AWp.rs fun K47 hK47 => ?_
              try simp only [go_sem, fb4, fb6]
              refine hK47 _ _ ?_
              try clear hK47 K47
              refine AWp.mask [false, false, false, true, true] rfl ?_
              simp only [go_sem]
              refine AWp.ret ?_
              apply endW_r [b4, b6] [] [b] [] (by (try simp only [go_sem, fb6]); rfl)
              · refine ⟨(.mk k 1 p2 a5 [] false 0 []), n5, f5, e5, rfl, by first | rfl | (simp only [go_sem, pob, fb4, fb6]; done) | (simp only [go_sem, pob, tcast, nA, tA, txA, Int.toNat_natCast, fb4, fb6, hlt, hgd, tkD]; rfl), by omega, ?_⟩
                rw [cmpR, hte, Rd.bind_ok]
                exact r5.thru (strsR_oof _ _) hc7 _ _
              · simp [LeA, LeL, LeD, tstA, kidsD, kidsL_eq, Tst.kind, Tst.mat, Tst.part, Tst.names, Tst.keys, Tst.over, Tst.limit, tsA]
        · skip
          try simp only [decide_eq_false_iff_not] at hc5
          refine AWp.skip ?_
          refine thenQ_n ?_
          refine hK30 _ _ ?_
          try clear hK30 K30
          refine AWp.mask [true, true, true, true] rfl ?_
          simp only [go_sem]
          refine AWp.seq fun K48 hK48 => ?_
          refine AWp.rs fun K49 hK49 => ?_
          try simp only [go_sem, fb4, fb6]
          refine hK49 _ _ ?_
          try clear hK49 K49
          refine AWp.mask [true, true, true, true, false, false, false, false, false, false, false, true] rfl ?_
          simp only [go_sem]
          refine AWp.cond _ rfl (fun hc6 => ?_) (fun hc6 => ?_)
          · skip
            try simp only [decide_eq_true_eq, decide_eq_false_iff_not, Bool.not_eq_true', Bool.and_eq_true] at hc6
            have x6 : p2 = 0 ∧ ¬ k = 6 := hc6
            refine AWp.rk fun K50 hK50 => ?_
            try simp only [go_sem, fb4, fb6]
            refine hK50 _ _ ?_
            try clear hK50 K50
            refine thenQ_n ?_
            refine hK48 _ _ ?_
            try clear hK48 K48
            refine AWp.rs fun K51 hK51 => ?_
            try simp only [go_sem]
            refine DW.acp [b] [] rfl rfl rfl rfl (by (try simp only [go_sem, pob, fb4, fb6]); rfl) rfl (pstrs_c T b l j _ _ hl h1) ?_
            rintro _ _ ⟨a5, n5, f5, e5, rfl, rfl, ub5, r5⟩
            have hte : tagS l k i 0 0 = .ok (m2, 1) j := by rw [h2, tg_0 hx2, if_neg hc5, if_pos x6]
            try simp only [go_sem, pob, txA, fb4, fb6]
            refine hK51 _ _ ?_
            try clear hK51 K51
            refine AWp.mask [true, true, true, true] rfl ?_
            simp only [go_sem]
            refine AWp.seq fun K52 hK52 => ?_
            refine AWp.rs fun K53 hK53 => ?_
            try simp only [go_sem, fb4, fb6]
            refine hK53 _ _ ?_
            try clear hK53 K53
            refine AWp.mask [true, true, true, true, false, false, false, false, true] rfl ?_
            simp only [go_sem]
            refine AWp.cond _ rfl (fun hc7 => ?_) (fun hc7 => ?_)
            · skip
              try simp only [decide_eq_true_eq] at hc7
              obtain ⟨o1, o2⟩ := r5.ok0 (strsR_oof _ _) hc7
              have o3 := strsR_le _ _ _ _ o1
              subst hc7 o2
              refine AWp.rk fun K54 hK54 => ?_
              try simp only [go_sem]
              refine DW.acp [b] [] rfl rfl rfl rfl (by (try simp only [go_sem, pob, fb4, fb6]); rfl) rfl (pstrs_c T b l n5 _ _ hl o3.2.1) ?_
              rintro _ _ ⟨a6, n6, f6, e6, rfl, rfl, ub6, r6⟩
              try simp only [go_sem, pob, txA, fb4, fb6]
              refine hK54 _ _ ?_
              try clear hK54 K54
              refine thenQ_n ?_
              refine hK52 _ _ ?_
              try clear hK52 K52
              refine AWp.mask [false, true, true, true] rfl ?_
              simp only [go_sem]
              refine AWp.rs fun K55 hK55 => ?_
              try simp only [go_sem, fb4, fb6]
              refine hK55 _ _ ?_
              try clear hK55 K55
              refine AWp.mask [false, false, true, true] rfl ?_
              simp only [go_sem]
              refine AWp.ret ?_
              apply endW_r [b4, b6] [] [b] [] (by (try simp only [go_sem, fb6]); rfl)
              · refine ⟨(.mk k m2 1 a5 a6 false 0 []), n6, f6, e6, rfl, by first | rfl | (simp only [go_sem, pob, fb4, fb6]; done) | (simp only [go_sem, pob, tcast, nA, tA, txA, Int.toNat_natCast, fb4, fb6, hlt, hgd, tkD]; rfl), by omega, ?_⟩
                rw [cmpR, hte, Rd.bind_ok, o1, Rd.bind_ok]
                by_cases h9 : e6 = 0
                · refine r6.next (strsR_oof _ _) h9 ?_
                  obtain ⟨_, rfl⟩ := r6.ok0 (strsR_oof _ _) h9
                  subst h9
                  exact RR.ok_ _ _
                · exact r6.thru (strsR_oof _ _) h9 _ _
              · simp [LeA, LeL, LeD, tstA, kidsD, kidsL_eq, Tst.kind, Tst.mat, Tst.part, Tst.names, Tst.keys, Tst.over, Tst.limit, tsA]
            · skip
              try simp only [decide_eq_false_iff_not] at hc7
              refine AWp.skip ?_
              refine thenQ_n ?_
              refine hK52 _ _ ?_
              try clear hK52 K52
              refine AWp.rs fun K56 hK56 => ?_
              try simp only [go_sem, fb4, fb6]
              refine hK56 _ _ ?_
              try clear hK56 K56
              refine AWp.mask [false, false, false, true, true] rfl ?_
              simp only [go_sem]
              refine AWp.ret ?_
              apply endW_r [b4, b6] [] [b] [] (by (try simp only [go_sem, fb6]); rfl)
              · refine ⟨(.mk k m2 1 a5 [] false 0 []), n5, f5, e5, rfl, by first | rfl | (simp only [go_sem, pob, fb4, fb6]; done) | (simp only [go_sem, pob, tcast, nA, tA, txA, Int.toNat_natCast, fb4, fb6, hlt, hgd, tkD]; rfl), by omega, ?_⟩
                rw [cmpR, hte, Rd.bind_ok]
                exact r5.thru (strsR_oof _ _) hc7 _ _
              · simp [LeA, LeL, LeD, tstA, kidsD, kidsL_eq, Tst.kind, Tst.mat, Tst.part, Tst.names, Tst.keys, Tst.over, Tst.limit, tsA]
          · skip
            try simp only [decide_eq_true_eq, decide_eq_false_iff_not, Bool.not_eq_false', Bool.and_eq_false_iff] at hc6
            have x6 : ¬ (p2 = 0 ∧ ¬ k = 6) := by rintro ⟨h8, h9⟩; simp [h8, h9] at hc6
            refine AWp.skip ?_
            refine thenQ_n ?_
            refine hK48 _ _ ?_
            try clear hK48 K48
            refine AWp.rs fun K57 hK57 => ?_
            try simp only [go_sem]
            refine DW.acp [b] [] rfl rfl rfl rfl (by (try simp only [go_sem, pob, fb4, fb6]); rfl) rfl (pstrs_c T b l j _ _ hl h1) ?_
            rintro _ _ ⟨a5, n5, f5, e5, rfl, rfl, ub5, r5⟩
            have hte : tagS l k i 0 0 = .ok (m2, p2) j := by rw [h2, tg_0 hx2, if_neg hc5, if_neg x6]
            try simp only [go_sem, pob, txA, fb4, fb6]
            refine hK57 _ _ ?_
            try clear hK57 K57
            refine AWp.mask [true, true, true, true] rfl ?_
            simp only [go_sem]
            refine AWp.seq fun K58 hK58 => ?_
            refine AWp.rs fun K59 hK59 => ?_
            try simp only [go_sem, fb4, fb6]
            refine hK59 _ _ ?_
            try clear hK59 K59
            refine AWp.mask [true, true, true, true, false, false, false, false, true] rfl ?_
            simp only [go_sem]
            refine AWp.cond _ rfl (fun hc7 => ?_) (fun hc7 => ?_)
            · skip
              try simp only [decide_eq_true_eq] at hc7
              obtain ⟨o1, o2⟩ := r5.ok0 (strsR_oof _ _) hc7
              have o3 := strsR_le _ _ _ _ o1
              subst hc7 o2
              refine AWp.rk fun K60 hK60 => ?_
              try simp only [go_sem]
              refine DW.acp [b] [] rfl rfl rfl rfl (by (try simp only [go_sem, pob, fb4, fb6]); rfl) rfl (pstrs_c T b l n5 _ _ hl o3.2.1) ?_
              rintro _ _ ⟨a6, n6, f6, e6, rfl, rfl, ub6, r6⟩
              try simp only [go_sem, pob, txA, fb4, fb6]
              refine hK60 _ _ ?_
              try clear hK60 K60
              refine thenQ_n ?_
              refine hK58 _ _ ?_
              try clear hK58 K58
              refine AWp.mask [false, true, true, true] rfl ?_
              simp only [go_sem]
              refine AWp.rs fun K61 hK61 => ?_
              try simp only [go_sem, fb4, fb6]
              refine hK61 _ _ ?_
              try clear hK61 K61
              refine AWp.mask [false, false, true, true] rfl ?_
              simp only [go_sem]
              refine AWp.ret ?_
              apply endW_r [b4, b6] [] [b] [] (by (try simp only [go_sem, fb6]); rfl)
              · refine ⟨(.mk k m2 p2 a5 a6 false 0 []), n6, f6, e6, rfl, by first | rfl | (simp only [go_sem, pob, fb4, fb6]; done) | (simp only [go_sem, pob, tcast, nA, tA, txA, Int.toNat_natCast, fb4, fb6, hlt, hgd, tkD]; rfl), by omega, ?_⟩
                rw [cmpR, hte, Rd.bind_ok, o1, Rd.bind_ok]
                by_cases h9 : e6 = 0
                · refine r6.next (strsR_oof _ _) h9 ?_
                  obtain ⟨_, rfl⟩ := r6.ok0 (strsR_oof _ _) h9
                  subst h9
                  exact RR.ok_ _ _
                · exact r6.thru (strsR_oof _ _) h9 _ _
              · simp [LeA, LeL, LeD, tstA, kidsD, kidsL_eq, Tst.kind, Tst.mat, Tst.part, Tst.names, Tst.keys, Tst.over, Tst.limit, tsA]
            · skip
              try simp only [decide_eq_false_iff_not] at hc7
              refine AWp.skip ?_
              refine thenQ_n ?_
              refine hK58 _ _ ?_
              try clear hK58 K58
              refine AWp.rs fun K62 hK62 => ?_
              try simp only [go_sem, fb4, fb6]
              refine hK62 _ _ ?_
              try clear hK62 K62
              refine AWp.mask [false, false, false, true, true] rfl ?_
              simp only [go_sem]
              refine AWp.ret ?_
              apply endW_r [b4, b6] [] [b] [] (by (try simp only [go_sem, fb6]); rfl)
              · refine ⟨(.mk k m2 p2 a5 [] false 0 []), n5, f5, e5, rfl, by first | rfl | (simp only [go_sem, pob, fb4, fb6]; done) | (simp only [go_sem, pob, tcast, nA, tA, txA, Int.toNat_natCast, fb4, fb6, hlt, hgd, tkD]; rfl), by omega, ?_⟩
                rw [cmpR, hte, Rd.bind_ok]
                exact r5.thru (strsR_oof _ _) hc7 _ _
              · simp [LeA, LeL, LeD, tstA, kidsD, kidsL_eq, Tst.kind, Tst.mat, Tst.part, Tst.names, Tst.keys, Tst.over, Tst.limit, tsA]
    · skip
      have hlt : ((j : Int) < (l.length : Int)) = False := by simp; omega
      have hx2 : nx l j 2 = false := by simp [nx, Nat.not_lt.2 hl2]
      refine AWp.rs fun K4 hK4 => ?_
      try simp only [go_sem, Int.toNat_natCast, fb4, fb6, hlt, decide_false, Bool.false_and, Bool.false_eq_true, false_imp_iff, true_and, and_true]
      refine hK4 _ _ ?_
      try clear hK4 K4
      refine AWp.mask [true, true, true, true, false, false, false, false, false, false, false, false, false, false, false, false, false, false, false, false, false, true] rfl ?_
      simp only [go_sem]
      refine AWp.cond _ rfl (fun hc0 => ?_) (fun hc0 => ?_)
      · skip
        exact absurd hc0 (by simp)
      · skip
        try simp only [] at hc0
        have hx2 : nx l j 2 = false := by first | exact hx2 | (simp only [nx, hge2, Bool.and_eq_false_iff, decide_eq_false_iff_not]; rcases hc0 with h9 | h9; exact absurd trivial h9; exact .inr h9)
        refine AWp.exit ?_
        refine thenQ_e (thenQ_e (blkQ_e (thenQ_n ?_)))
        refine hK2 _ _ ?_
        try clear hK2 K2
        refine AWp.seq fun K63 hK63 => ?_
        refine AWp.rs fun K64 hK64 => ?_
        try simp only [go_sem, fb4, fb6, Bool.false_eq_true, true_and, and_true]
        refine hK64 _ _ ?_
        try clear hK64 K64
        refine AWp.cond _ rfl (fun hc5 => ?_) (fun hc5 => ?_)
        · skip
          try simp only [decide_eq_true_eq] at hc5
          refine AWp.rk fun K65 hK65 => ?_
          try simp only [go_sem, fb4, fb6, Bool.false_eq_true, true_and, and_true]
          refine hK65 _ _ ?_
          try clear hK65 K65
          refine thenQ_n ?_
          refine hK63 _ _ ?_
          try clear hK63 K63
          refine AWp.mask [true, true, true, true] rfl ?_
          simp only [go_sem]
          refine AWp.seq fun K66 hK66 => ?_
          refine AWp.rs fun K67 hK67 => ?_
          try simp only [go_sem, fb4, fb6, Bool.false_eq_true, true_and, and_true]
          refine hK67 _ _ ?_
          try clear hK67 K67
          refine AWp.mask [true, true, true, true, false, false, false, false, false, false, false, true] rfl ?_
          simp only [go_sem]
          refine AWp.cond _ rfl (fun hc6 => ?_) (fun hc6 => ?_)
          · skip
            try simp only [decide_eq_true_eq, decide_eq_false_iff_not, Bool.not_eq_true', Bool.and_eq_true] at hc6
            have x6 : p2 = 0 ∧ ¬ k = 6 := hc6
            refine AWp.rk fun K68 hK68 => ?_
            try simp only [go_sem, fb4, fb6, Bool.false_eq_true, true_and, and_true]
            refine hK68 _ _ ?_
            try clear hK68 K68
            refine thenQ_n ?_
            refine hK66 _ _ ?_
            try clear hK66 K66
            refine AWp.rs fun K69 hK69 => ?_
            try simp only [go_sem, true_and]
            refine DW.acp [b] [] rfl rfl rfl rfl (by (try simp only [go_sem, pob, fb4, fb6, Bool.false_eq_true]); rfl) rfl (pstrs_c T b l j _ _ hl h1) ?_
            rintro _ _ ⟨a5, n5, f5, e5, rfl, rfl, ub5, r5⟩
            have hte : tagS l k i 0 0 = .ok (1, 1) j := by rw [h2, tg_0 hx2, if_pos hc5, if_pos x6]
            try simp only [go_sem, pob, txA, fb4, fb6, Bool.false_eq_true, true_and, and_true]
            refine hK69 _ _ ?_
            try clear hK69 K69
            refine AWp.mask [true, true, true, true] rfl ?_
            simp only [go_sem]
            refine AWp.seq fun K70 hK70 => ?_
            refine AWp.rs fun K71 hK71 => ?_
            try simp only [go_sem, fb4, fb6, Bool.false_eq_true, true_and, and_true]
            refine hK71 _ _ ?_
            try clear hK71 K71
            refine AWp.mask [true, true, true, true, false, false, false, false, true] rfl ?_
            simp only [go_sem]
            refine AWp.cond _ rfl (fun hc7 => ?_) (fun hc7 => ?_)
            · skip
              try simp only [decide_eq_true_eq] at hc7
              obtain ⟨o1, o2⟩ := r5.ok0 (strsR_oof _ _) hc7
              have o3 := strsR_le _ _ _ _ o1
              subst hc7 o2
              refine AWp.rk fun K72 hK72 => ?_
              try simp only [go_sem, true_and]
              refine DW.acp [b] [] rfl rfl rfl rfl (by (try simp only [go_sem, pob, fb4, fb6, Bool.false_eq_true]); rfl) rfl (pstrs_c T b l n5 _ _ hl o3.2.1) ?_
              rintro _ _ ⟨a6, n6, f6, e6, rfl, rfl, ub6, r6⟩
              try simp only [go_sem, pob, txA, fb4, fb6, Bool.false_eq_true, true_and, and_true]
              refine hK72 _ _ ?_
              try clear hK72 K72
              refine thenQ_n ?_
              refine hK70 _ _ ?_
              try clear hK70 K70
              refine AWp.mask [false, true, true, true] rfl ?_
              simp only [go_sem]
              refine AWp.rs fun K73 hK73 => ?_
              try simp only [go_sem, fb4, fb6, Bool.false_eq_true, true_and, and_true]
              refine hK73 _ _ ?_
              try clear hK73 K73
              refine AWp.mask [false, false, true, true] rfl ?_
              simp only [go_sem]
              refine AWp.ret ?_
              apply endW_r [b4, b6] [] [b] [] (by (try simp only [go_sem, fb6, Bool.false_eq_true, and_true]); rfl)
              · refine ⟨(.mk k 1 1 a5 a6 false 0 []), n6, f6, e6, rfl, by first | rfl | (simp only [go_sem, pob, fb4, fb6, Bool.false_eq_true]; done) | (simp only [go_sem, pob, tcast, nA, tA, txA, Int.toNat_natCast, fb4, fb6, hlt, decide_false, Bool.false_and, Bool.false_eq_true, false_imp_iff, true_and, and_true]; rfl), by omega, ?_⟩
                rw [cmpR, hte, Rd.bind_ok, o1, Rd.bind_ok]
                by_cases h9 : e6 = 0
                · refine r6.next (strsR_oof _ _) h9 ?_
                  obtain ⟨_, rfl⟩ := r6.ok0 (strsR_oof _ _) h9
                  subst h9
                  exact RR.ok_ _ _
                · exact r6.thru (strsR_oof _ _) h9 _ _
              · simp [LeA, LeL, LeD, tstA, kidsD, kidsL_eq, Tst.kind, Tst.mat, Tst.part, Tst.names, Tst.keys, Tst.over, Tst.limit, tsA]
            · skip
              try simp only [decide_eq_false_iff_not] at hc7
              refine AWp.skip ?_
              refine thenQ_n ?_
              refine hK70 _ _ ?_
              try clear hK70 K70
              refine AWp.rs fun K74 hK74 => ?_
              try simp only [go_sem, fb4, fb6, Bool.false_eq_true, true_and, and_true]
              refine hK74 _ _ ?_
              try clear hK74 K74
              refine AWp.mask [false, false, false, true, true] rfl ?_
              simp only [go_sem]
              refine AWp.ret ?_
              apply endW_r [b4, b6] [] [b] [] (by (try simp only [go_sem, fb6, Bool.false_eq_true, and_true]); rfl)
              · refine ⟨(.mk k 1 1 a5 [] false 0 []), n5, f5, e5, rfl, by first | rfl | (simp only [go_sem, pob, fb4, fb6, Bool.false_eq_true]; done) | (simp only [go_sem, pob, tcast, nA, tA, txA, Int.toNat_natCast, fb4, fb6, hlt, decide_false, Bool.false_and, Bool.false_eq_true, false_imp_iff, true_and, and_true]; rfl), by omega, ?_⟩
                rw [cmpR, hte, Rd.bind_ok]
                exact r5.thru (strsR_oof _ _) hc7 _ _
              · simp [LeA, LeL, LeD, tstA, kidsD, kidsL_eq, Tst.kind, Tst.mat, Tst.part, Tst.names, Tst.keys, Tst.over, Tst.limit, tsA]
          · skip
            try simp only [decide_eq_true_eq, decide_eq_false_iff_not, Bool.not_eq_false', Bool.and_eq_false_iff] at hc6
            have x6 : ¬ (p2 = 0 ∧ ¬ k = 6) := by rintro ⟨h8, h9⟩; simp [h8, h9] at hc6
            refine AWp.skip ?_
            refine thenQ_n ?_
            refine hK66 _ _ ?_
            try clear hK66 K66
            refine AWp.rs fun K75 hK75 => ?_
            try simp only [go_sem, true_and]
            refine DW.acp [b] [] rfl rfl rfl rfl (by (try simp only [go_sem, pob, fb4, fb6, Bool.false_eq_true]); rfl) rfl (pstrs_c T b l j _ _ hl h1) ?_
            rintro _ _ ⟨a5, n5, f5, e5, rfl, rfl, ub5, r5⟩
            have hte : tagS l k i 0 0 = .ok (1, p2) j := by rw [h2, tg_0 hx2, if_pos hc5, if_neg x6]
            try simp only [go_sem, pob, txA, fb4, fb6, Bool.false_eq_true, true_and, and_true]
            refine hK75 _ _ ?_
            try clear hK75 K75
            refine AWp.mask [true, true, true, true] rfl ?_
            simp only [go_sem]
            refine AWp.seq fun K76 hK76 => ?_
            refine AWp.rs fun K77 hK77 => ?_
            try simp only [go_sem, fb4, fb6, Bool.false_eq_true, true_and, and_true]
            refine hK77 _ _ ?_
            try clear hK77 K77
            refine AWp.mask [true, true, true, true, false, false, false, false, true] rfl ?_
            simp only [go_sem]
            refine AWp.cond _ rfl (fun hc7 => ?_) (fun hc7 => ?_)
            · skip
              try simp only [decide_eq_true_eq] at hc7
              obtain ⟨o1, o2⟩ := r5.ok0 (strsR_oof _ _) hc7
              have o3 := strsR_le _ _ _ _ o1
              subst hc7 o2
              refine AWp.rk fun K78 hK78 => ?_
              try simp only [go_sem, true_and]
              refine DW.acp [b] [] rfl rfl rfl rfl (by (try simp only [go_sem, pob, fb4, fb6, Bool.false_eq_true]); rfl) rfl (pstrs_c T b l n5 _ _ hl o3.2.1) ?_
              rintro _ _ ⟨a6, n6, f6, e6, rfl, rfl, ub6, r6⟩
              try simp only [go_sem, pob, txA, fb4, fb6, Bool.false_eq_true, true_and, and_true]
              refine hK78 _ _ ?_
              try clear hK78 K78
              refine thenQ_n ?_
              refine hK76 _ _ ?_
              try clear hK76 K76
              refine AWp.mask [false, true, true, true] rfl ?_
              simp only [go_sem]
              refine AWp.rs fun K79 hK79 => ?_
              try simp only [go_sem, fb4, fb6, Bool.false_eq_true, true_and, and_true]
              refine hK79 _ _ ?_
              try clear hK79 K79
              refine AWp.mask [false, false, true, true] rfl ?_
              simp only [go_sem]
              refine AWp.ret ?_
              apply endW_r [b4, b6] [] [b] [] (by (try simp only [go_sem, fb6, Bool.false_eq_true, and_true]); rfl)
              · refine ⟨(.mk k 1 p2 a5 a6 false 0 []), n6, f6, e6, rfl, by first | rfl | (simp only [go_sem, pob, fb4, fb6, Bool.false_eq_true]; done) | (simp only [go_sem, pob, tcast, nA, tA, txA, Int.toNat_natCast, fb4, fb6, hlt, decide_false, Bool.false_and, Bool.false_eq_true, false_imp_iff, true_and, and_true]; rfl), by omega, ?_⟩
                rw [cmpR, hte, Rd.bind_ok, o1, Rd.bind_ok]
                by_cases h9 : e6 = 0
                · refine r6.next (strsR_oof _ _) h9 ?_
                  obtain ⟨_, rfl⟩ := r6.ok0 (strsR_oof _ _) h9
                  subst h9
                  exact RR.ok_ _ _
                · exact r6.thru (strsR_oof _ _) h9 _ _
              · simp [LeA, LeL, LeD, tstA, kidsD, kidsL_eq, Tst.kind, Tst.mat, Tst.part, Tst.names, Tst.keys, Tst.over, Tst.limit, tsA]
            · skip
              try simp only [decide_eq_false_iff_not] at hc7
              refine AWp.skip ?_
              refine thenQ_n ?_
              refine hK76 _ _ ?_
              try clear hK76 K76
              refine AWp.rs fun K80 hK80 => ?_
              try simp only [go_sem, fb4, fb6, Bool.false_eq_true, true_and, and_true]
              refine hK80 _ _ ?_
              try clear hK80 K80
              refine AWp.mask [false, false, false, true, true] rfl ?_
              simp only [go_sem]
              refine AWp.ret ?_
              apply endW_r [b4, b6] [] [b] [] (by (try simp only [go_sem, fb6, Bool.false_eq_true, and_true]); rfl)
              · refine ⟨(.mk k 1 p2 a5 [] false 0 []), n5, f5, e5, rfl, by first | rfl | (simp only [go_sem, pob, fb4, fb6, Bool.false_eq_true]; done) | (simp only [go_sem, pob, tcast, nA, tA, txA, Int.toNat_natCast, fb4, fb6, hlt, decide_false, Bool.false_and, Bool.false_eq_true, false_imp_iff, true_and, and_true]; rfl), by omega, ?_⟩
                rw [cmpR, hte, Rd.bind_ok]
                exact r5.thru (strsR_oof _ _) hc7 _ _
              · simp [LeA, LeL, LeD, tstA, kidsD, kidsL_eq, Tst.kind, Tst.mat, Tst.part, Tst.names, Tst.keys, Tst.over, Tst.limit, tsA]
        · skip
          try simp only [decide_eq_false_iff_not] at hc5
          refine AWp.skip ?_
          refine thenQ_n ?_
          refine hK63 _ _ ?_
          try clear hK63 K63
          refine AWp.mask [true, true, true, true] rfl ?_
          simp only [go_sem]
          refine AWp.seq fun K81 hK81 => ?_
          refine AWp.rs fun K82 hK82 => ?_
          try simp only [go_sem, fb4, fb6, Bool.false_eq_true, true_and, and_true]
          refine hK82 _ _ ?_
          try clear hK82 K82
          refine AWp.mask [true, true, true, true, false, false, false, false, false, false, false, true] rfl ?_
          simp only [go_sem]
          refine AWp.cond _ rfl (fun hc6 => ?_) (fun hc6 => ?_)
          · skip
            try simp only [decide_eq_true_eq, decide_eq_false_iff_not, Bool.not_eq_true', Bool.and_eq_true] at hc6
            have x6 : p2 = 0 ∧ ¬ k = 6 := hc6
            refine AWp.rk fun K83 hK83 => ?_
            try simp only [go_sem, fb4, fb6, Bool.false_eq_true, true_and, and_true]
            refine hK83 _ _ ?_
            try clear hK83 K83
            refine thenQ_n ?_
            refine hK81 _ _ ?_
            try clear hK81 K81
            refine AWp.rs fun K84 hK84 => ?_
            try simp only [go_sem, true_and]
            refine DW.acp [b] [] rfl rfl rfl rfl (by (try simp only [go_sem, pob, fb4, fb6, Bool.false_eq_true]); rfl) rfl (pstrs_c T b l j _ _ hl h1) ?_
            rintro _ _ ⟨a5, n5, f5, e5, rfl, rfl, ub5, r5⟩
            have hte : tagS l k i 0 0 = .ok (m2, 1) j := by rw [h2, tg_0 hx2, if_neg hc5, if_pos x6]
            try simp only [go_sem, pob, txA, fb4, fb6, Bool.false_eq_true, true_and, and_true]
            refine hK84 _ _ ?_
            try clear hK84 K84
            refine AWp.mask [true, true, true, true] rfl ?_
            simp only [go_sem]
            refine AWp.seq fun K85 hK85 => ?_
            refine AWp.rs fun K86 hK86 => ?_
            try simp only [go_sem, fb4, fb6, Bool.false_eq_true, true_and, and_true]
            refine hK86 _ _ ?_
            try clear hK86 K86
            refine AWp.mask [true, true, true, true, false, false, false, false, true] rfl ?_
            simp only [go_sem]
            refine AWp.cond _ rfl (fun hc7 => ?_) (fun hc7 => ?_)
            · skip
              try simp only [decide_eq_true_eq] at hc7
              obtain ⟨o1, o2⟩ := r5.ok0 (strsR_oof _ _) hc7
              have o3 := strsR_le _ _ _ _ o1
              subst hc7 o2
              refine AWp.rk fun K87 hK87 => ?_
              try simp only [go_sem, true_and]
              refine DW.acp [b] [] rfl rfl rfl rfl (by (try simp only [go_sem, pob, fb4, fb6, Bool.false_eq_true]); rfl) rfl (pstrs_c T b l n5 _ _ hl o3.2.1) ?_
              rintro _ _ ⟨a6, n6, f6, e6, rfl, rfl, ub6, r6⟩
              try simp only [go_sem, pob, txA, fb4, fb6, Bool.false_eq_true, true_and, and_true]
              refine hK87 _ _ ?_
              try clear hK87 K87
              refine thenQ_n ?_
              refine hK85 _ _ ?_
              try clear hK85 K85
              refine AWp.mask [false, true, true, true] rfl ?_
              simp only [go_sem]
              refine AWp.rs fun K88 hK88 => ?_
              try simp only [go_sem, fb4, fb6, Bool.false_eq_true, true_and, and_true]
              refine hK88 _ _ ?_
              try clear hK88 K88
              refine AWp.mask [false, false, true, true] rfl ?_
              simp only [go_sem]
              refine AWp.ret ?_
              apply endW_r [b4, b6] [] [b] [] (by (try simp only [go_sem, fb6, Bool.false_eq_true, and_true]); rfl)
              · refine ⟨(.mk k m2 1 a5 a6 false 0 []), n6, f6, e6, rfl, by first | rfl | (simp only [go_sem, pob, fb4, fb6, Bool.false_eq_true]; done) | (simp only [go_sem, pob, tcast, nA, tA, txA, Int.toNat_natCast, fb4, fb6, hlt, decide_false, Bool.false_and, Bool.false_eq_true, false_imp_iff, true_and, and_true]; rfl), by omega, ?_⟩
                rw [cmpR, hte, Rd.bind_ok, o1, Rd.bind_ok]
                by_cases h9 : e6 = 0
                · refine r6.next (strsR_oof _ _) h9 ?_
                  obtain ⟨_, rfl⟩ := r6.ok0 (strsR_oof _ _) h9
                  subst h9
                  exact RR.ok_ _ _
                · exact r6.thru (strsR_oof _ _) h9 _ _
              · simp [LeA, LeL, LeD, tstA, kidsD, kidsL_eq, Tst.kind, Tst.mat, Tst.part, Tst.names, Tst.keys, Tst.over, Tst.limit, tsA]
            · skip
              try simp only [decide_eq_false_iff_not] at hc7
              refine AWp.skip ?_
              refine thenQ_n ?_
              refine hK85 _ _ ?_
              try clear hK85 K85
              refine AWp.rs fun K89 hK89 => ?_
              try simp only [go_sem, fb4, fb6, Bool.false_eq_true, true_and, and_true]
              refine hK89 _ _ ?_
              try clear hK89 K89
              refine AWp.mask [false, false, false, true, true] rfl ?_
              simp only [go_sem]
              refine AWp.ret ?_
              apply endW_r [b4, b6] [] [b] [] (by (try simp only [go_sem, fb6, Bool.false_eq_true, and_true]); rfl)
              · refine ⟨(.mk k m2 1 a5 [] false 0 []), n5, f5, e5, rfl, by first | rfl | (simp only [go_sem, pob, fb4, fb6, Bool.false_eq_true]; done) | (simp only [go_sem, pob, tcast, nA, tA, txA, Int.toNat_natCast, fb4, fb6, hlt, decide_false, Bool.false_and, Bool.false_eq_true, false_imp_iff, true_and, and_true]; rfl), by omega, ?_⟩
                rw [cmpR, hte, Rd.bind_ok]
                exact r5.thru (strsR_oof _ _) hc7 _ _
              · simp [LeA, LeL, LeD, tstA, kidsD, kidsL_eq, Tst.kind, Tst.mat, Tst.part, Tst.names, Tst.keys, Tst.over, Tst.limit, tsA]
          · skip
            try simp only [decide_eq_true_eq, decide_eq_false_iff_not, Bool.not_eq_false', Bool.and_eq_false_iff] at hc6
            have x6 : ¬ (p2 = 0 ∧ ¬ k = 6) := by rintro ⟨h8, h9⟩; simp [h8, h9] at hc6
            refine AWp.skip ?_
            refine thenQ_n ?_
            refine hK81 _ _ ?_
            try clear hK81 K81
            refine AWp.rs fun K90 hK90 => ?_
            try simp only [go_sem, true_and]
            refine DW.acp [b] [] rfl rfl rfl rfl (by (try simp only [go_sem, pob, fb4, fb6, Bool.false_eq_true]); rfl) rfl (pstrs_c T b l j _ _ hl h1) ?_
            rintro _ _ ⟨a5, n5, f5, e5, rfl, rfl, ub5, r5⟩
            have hte : tagS l k i 0 0 = .ok (m2, p2) j := by rw [h2, tg_0 hx2, if_neg hc5, if_neg x6]
            try simp only [go_sem, pob, txA, fb4, fb6, Bool.false_eq_true, true_and, and_true]
            refine hK90 _ _ ?_
            try clear hK90 K90
            refine AWp.mask [true, true, true, true] rfl ?_
            simp only [go_sem]
            refine AWp.seq fun K91 hK91 => ?_
            refine AWp.rs fun K92 hK92 => ?_
            try simp only [go_sem, fb4, fb6, Bool.false_eq_true, true_and, and_true]
            refine hK92 _ _ ?_
            try clear hK92 K92
            refine AWp.mask [true, true, true, true, false, false, false, false, true] rfl ?_
            simp only [go_sem]
            refine AWp.cond _ rfl (fun hc7 => ?_) (fun hc7 => ?_)
            · skip
              try simp only [decide_eq_true_eq] at hc7
              obtain ⟨o1, o2⟩ := r5.ok0 (strsR_oof _ _) hc7
              have o3 := strsR_le _ _ _ _ o1
              subst hc7 o2
              refine AWp.rk fun K93 hK93 => ?_
              try simp only [go_sem, true_and]
              refine DW.acp [b] [] rfl rfl rfl rfl (by (try simp only [go_sem, pob, fb4, fb6, Bool.false_eq_true]); rfl) rfl (pstrs_c T b l n5 _ _ hl o3.2.1) ?_
              rintro _ _ ⟨a6, n6, f6, e6, rfl, rfl, ub6, r6⟩
              try simp only [go_sem, pob, txA, fb4, fb6, Bool.false_eq_true, true_and, and_true]
              refine hK93 _ _ ?_
              try clear hK93 K93
              refine thenQ_n ?_
              refine hK91 _ _ ?_
              try clear hK91 K91
              refine AWp.mask [false, true, true, true] rfl ?_
              simp only [go_sem]
              refine AWp.rs fun K94 hK94 => ?_
              try simp only [go_sem, fb4, fb6, Bool.false_eq_true, true_and, and_true]
              refine hK94 _ _ ?_
              try clear hK94 K94
              refine AWp.mask [false, false, true, true] rfl ?_
              simp only [go_sem]
              refine AWp.ret ?_
              apply endW_r [b4, b6] [] [b] [] (by (try simp only [go_sem, fb6, Bool.false_eq_true, and_true]); rfl)
              · refine ⟨(.mk k m2 p2 a5 a6 false 0 []), n6, f6, e6, rfl, by first | rfl | (simp only [go_sem, pob, fb4, fb6, Bool.false_eq_true]; done) | (simp only [go_sem, pob, tcast, nA, tA, txA, Int.toNat_natCast, fb4, fb6, hlt, decide_false, Bool.false_and, Bool.false_eq_true, false_imp_iff, true_and, and_true]; rfl), by omega, ?_⟩
                rw [cmpR, hte, Rd.bind_ok, o1, Rd.bind_ok]
                by_cases h9 : e6 = 0
                · refine r6.next (strsR_oof _ _) h9 ?_
                  obtain ⟨_, rfl⟩ := r6.ok0 (strsR_oof _ _) h9
                  subst h9
                  exact RR.ok_ _ _
                · exact r6.thru (strsR_oof _ _) h9 _ _
              · simp [LeA, LeL, LeD, tstA, kidsD, kidsL_eq, Tst.kind, Tst.mat, Tst.part, Tst.names, Tst.keys, Tst.over, Tst.limit, tsA]
            · skip
              try simp only [decide_eq_false_iff_not] at hc7
              refine AWp.skip ?_
              refine thenQ_n ?_
              refine hK91 _ _ ?_
              try clear hK91 K91
              refine AWp.rs fun K95 hK95 => ?_
              try simp only [go_sem, fb4, fb6, Bool.false_eq_true, true_and, and_true]
              refine hK95 _ _ ?_
              try clear hK95 K95
              refine AWp.mask [false, false, false, true, true] rfl ?_
              simp only [go_sem]
              refine AWp.ret ?_
              apply endW_r [b4, b6] [] [b] [] (by (try simp only [go_sem, fb6, Bool.false_eq_true, and_true]); rfl)
              · refine ⟨(.mk k m2 p2 a5 [] false 0 []), n5, f5, e5, rfl, by first | rfl | (simp only [go_sem, pob, fb4, fb6, Bool.false_eq_true]; done) | (simp only [go_sem, pob, tcast, nA, tA, txA, Int.toNat_natCast, fb4, fb6, hlt, decide_false, Bool.false_and, Bool.false_eq_true, false_imp_iff, true_and, and_true]; rfl), by omega, ?_⟩
                rw [cmpR, hte, Rd.bind_ok]
                exact r5.thru (strsR_oof _ _) hc7 _ _
              · simp [LeA, LeL, LeD, tstA, kidsD, kidsL_eq, Tst.kind, Tst.mat, Tst.part, Tst.names, Tst.keys, Tst.over, Tst.limit, tsA]
end Go.Proofs.YthpkjmbdjnelfaaDoor

namespace Go.Proofs.YthpkjmbdjnelfaaDoor
set_option linter.unusedSimpArgs false
set_option linter.unusedVariables false
theorem isT_in {l : List Tk} {i : Nat} {k : Int} {s : Tx} (h : i < l.length) : isT l i k s = (decide ((l[i]).kind = k) && decide ((l[i]).text = s)) := by simp [isT, h, List.getD]
theorem isT_out {l : List Tk} {i : Nat} {k : Int} {s : Tx} (h : l.length ≤ i) : isT l i k s = false := by simp [isT, Nat.not_lt.2 h]
set_option maxRecDepth 4000 in
set_option maxHeartbeats 1000000 in
theorem ptest_s (T : Tbl) (nn : Nat) (ih : ∀ m, m ≤ nn → ∀ (b : Nat) (l : List Tk) (i d : Nat) (F : List (Nat × Ob)) (L : List Nat), l.length ≤ 400 → i ≤ l.length → d ≤ 7 → testR m l i d ≠ .oof → AC Tryd.prog T 136 [.ptr b 3 0 0, .d (.int .i64 (i : Nat)), .d (.int .i64 (d : Nat))] ⟨pob b l 0 0 :: F, L⟩ (RE 500 b F L l tsA (testR m l i d))) (b : Nat) (l : List Tk) (i d : Nat) (F : List (Nat × Ob)) (L : List Nat) (hl : l.length ≤ 400) (hi : i ≤ l.length) (hd7 : d ≤ 7) (hno : testR (nn + 1) l i d ≠ .oof) : AC Tryd.prog T 136 [.ptr b 3 0 0, .d (.int .i64 (i : Nat)), .d (.int .i64 (d : Nat))] (⟨pob b l 0 0 :: F, L⟩) (RE 500 b F L l tsA (testR (nn + 1) l i d)) := by
  refine ⟨Tryd.call136, ACalls.enterS Tryd.func136 rfl Tryd.ntmps136 rfl fun hb => ?_⟩
  simp only [go_sem, Tryd.results136]
  refine AWp.rs fun K1 hK1 => ?_
  try simp only [go_sem]
  intro b6
  first | intro fb6 | have fb6 := True.intro
  try simp only [freshL] at fb6
  refine hK1 _ _ ?_
  try clear hK1 K1
  refine AWp.seq fun K2 hK2 => ?_
  refine AWp.rs fun K3 hK3 => ?_
  try simp only [go_sem, fb6]
  refine hK3 _ _ ?_
  try clear hK3 K3
  refine AWp.mask [true, true, true, true, false, false, false, false, false, false, false, false, false, false, false, true] rfl ?_
  simp only [go_sem]
  refine AWp.cond _ rfl (fun hc0 => ?_) (fun hc0 => ?_)
  · skip
    try simp only [decide_eq_true_eq, Bool.and_eq_true] at hc0
    have hd0 : 6 < d ∧ i < l.length := by omega
    refine AWp.rs fun K4 hK4 => ?_
    try simp only [go_sem]
    refine DW.acp [b] [] rfl rfl rfl rfl (by (try simp only [go_sem, pob, fb6]); rfl) rfl (pstop_c T b l (i) _ _ 1 (by decide)) ?_
    rintro _ _ ⟨rfl, rfl⟩
    try simp only [go_sem, pob, fb6]
    refine hK4 _ _ ?_
    try clear hK4 K4
    refine AWp.mask [false, false, false, true, true] rfl ?_
    simp only [go_sem]
    refine AWp.ret ?_
    try simp only [thenQ]
    apply endW_r [b6] [] [b] [] (by (try simp only [go_sem, fb6]); rfl)
    · refine ⟨tst0, i, _, _, rfl, by first | rfl | (simp only [go_sem, pob, fb6]; done) | (simp only [go_sem, pob, fb6]; rfl), by omega, ?_⟩
      rw [te_1 hd0]
      exact RR.er_ _ _ (gv_ne (by decide))
    · simp [LeA, LeL, LeD, tstA, kidsD, kidsL_eq, tst0, Tst.kind, Tst.mat, Tst.part, Tst.names, Tst.keys, Tst.over, Tst.limit, tsA]
  · skip
    try simp only [decide_eq_false_iff_not, Bool.and_eq_false_iff, Int.not_lt] at hc0
    have hd0 : ¬ (6 < d ∧ i < l.length) := by omega
    refine AWp.skip ?_
    refine thenQ_n ?_
    refine hK2 _ _ ?_
    try clear hK2 K2
    refine AWp.rs fun K5 hK5 => ?_
    try simp only [go_sem]
    intro b8
    first | intro fb8 | have fb8 := True.intro
    try simp only [freshL] at fb8
    refine hK5 _ _ ?_
    try clear hK5 K5
    refine AWp.seq fun K6 hK6 => ?_
    refine AWp.rs fun K7 hK7 => ?_
    try simp only [go_sem]
    refine hK7 _ _ ?_
    try clear hK7 K7
    refine AWp.block ?_
    refine AWp.mask [true, true, true, true, true, true] rfl ?_
    simp only [go_sem]
    refine AWp.loopS [true, true, true, true, true] [false, false, false, false, false, true] (fun n lc hc => ∃ (q : Nat) (kd : Int), n = 11 - q ∧ EqS lc [(9, .d (.int .i64 (q : Nat)))] ∧ EqS hc (⟨(b8, ⟨8, 1, [[.d (.int .i64 kd), .d (.int .i64 0), .d (.int .i64 0), .nils, .nils, .d (.bool false), .d (.int .i64 0), .nils]]⟩) :: (b6, ⟨8, 1, [[.d (.int .i64 0), .d (.int .i64 0), .d (.int .i64 0), .nils, .nils, .d (.bool false), .d (.int .i64 0), .nils]]⟩) :: pob b l 0 0 :: F, L⟩) ∧ (1 ≤ q) ∧ (q ≤ 11) ∧ (kd = kdS tsT l i q)) rfl ?_ ?_
    · refine ⟨_, 1, 0, rfl, ?_, ?_, ?_, ?_, ?_⟩
      · (try simp only [go_sem]) <;> first | exact ⟨rfl⟩ | (constructor; simp; done)
      · (try simp only [go_sem, pob]) <;> first | exact ⟨rfl⟩ | (constructor; simp; done)
      all_goals (first | omega | exact (kdS_1 _ _ _).symm)
    · rintro _ _ _ ⟨q, kd, rfl, ⟨rfl⟩, ⟨rfl⟩, h1, h2, h3⟩
      simp only [go_sem]
      refine AWp.seq fun K8 hK8 => ?_
      refine AWp.rs fun K9 hK9 => ?_
      try simp only [go_sem]
      refine hK9 _ _ ?_
      try clear hK9 K9
      refine AWp.cond _ rfl (fun hc1 => ?_) (fun hc1 => ?_)
      · skip
        try simp only [decide_eq_true_eq] at hc1
        refine AWp.skip ?_
        refine thenQ_n ?_
        refine hK8 _ _ ?_
        try clear hK8 K8
        refine AWp.seq fun K10 hK10 => ?_
        refine AWp.block ?_
        refine AWp.rs fun K11 hK11 => ?_
        try simp only [go_sem]
        refine DW.pcr rfl rfl rfl rfl (ptestWord_c T _ (by omega) (by omega)) rfl rfl ?_
        try simp only [go_sem, Int.toNat_natCast]
        refine DW.acp [b] [] rfl rfl rfl rfl (by (try simp only [go_sem, pob, fb6, fb8]); rfl) rfl (pisWord_c T b l (i) _ _ _ _ _) ?_
        rintro _ _ ⟨rfl, rfl⟩
        try simp only [go_sem, pob]
        refine hK11 _ _ ?_
        try clear hK11 K11
        refine AWp.mask [true, true, true, true, true, true, false, false, false, false, false, false, true] rfl ?_
        simp only [go_sem]
        refine AWp.cond _ rfl (fun hc2 => ?_) (fun hc2 => ?_)
        · skip
          refine AWp.rk fun K12 hK12 => ?_
          try simp only [go_sem, fb8]
          refine hK12 _ _ ?_
          try clear hK12 K12
          refine blkQ_n (thenQ_n ?_)
          refine hK10 _ _ ?_
          try clear hK10 K10
          refine AWp.rk fun K13 hK13 => ?_
          try simp only [go_sem, tcast]
          (repeat (with_reducible refine And.intro ?_ ?_; omega))
          refine hK13 _ _ ?_
          try clear hK13 K13
          refine thenQ_n ?_
          refine EndS.mk [true, true, true, true, true] [false, false, false, false, false, true] [] [] [b8, b6, b] [] rfl ?_ ?_
          · (try simp only [go_sem]) <;> try rfl
          refine .e ⟨_, ?_, (q + 1), (q : Int), rfl, ?_, ?_, ?_, ?_, ?_⟩
          · first | omega | (simp; omega) | (grind)
          · (try simp only [go_sem]) <;> first | exact ⟨rfl⟩ | (constructor; simp; done)
          · (try simp only [go_sem, fb6, fb8]) <;> first | exact ⟨rfl⟩ | (constructor; simp; done)
          · omega
          · omega
          · exact (kdS_t tsT_nd (by omega) (show q < 11 by omega) hc2).symm
        · skip
          refine AWp.skip ?_
          refine blkQ_n (thenQ_n ?_)
          refine hK10 _ _ ?_
          try clear hK10 K10
          refine AWp.rk fun K14 hK14 => ?_
          try simp only [go_sem, tcast]
          (repeat (with_reducible refine And.intro ?_ ?_; omega))
          refine hK14 _ _ ?_
          try clear hK14 K14
          refine thenQ_n ?_
          refine EndS.mk [true, true, true, true, true] [false, false, false, false, false, true] [] [] [b8, b6, b] [] rfl ?_ ?_
          · (try simp only [go_sem]) <;> try rfl
          refine .e ⟨_, ?_, (q + 1), kd, rfl, ?_, ?_, ?_, ?_, ?_⟩
          · first | omega | (simp; omega) | (grind)
          · (try simp only [go_sem]) <;> first | exact ⟨rfl⟩ | (constructor; simp; done)
          · (try simp only [go_sem, fb6, fb8]) <;> first | exact ⟨rfl⟩ | (constructor; simp; done)
          · omega
          · omega
          · exact h3.trans (kdS_f tsT_nd (show q < 11 by omega) (by simpa using hc2)).symm
      · skip
        try simp only [decide_eq_false_iff_not, Int.not_le] at hc1
        obtain rfl : q = 11 := by omega
        refine AWp.exit ?_
        refine thenQ_e (thenQ_e (blkQ_e (thenQ_n ?_)))
        refine hK6 _ _ ?_
        try clear hK6 K6
        refine AWp.seq fun K15 hK15 => ?_
        refine AWp.rs fun K16 hK16 => ?_
        try simp only [go_sem, fb8]
        refine hK16 _ _ ?_
        try clear hK16 K16
        refine AWp.mask [true, true, true, true, true, false, false, false, false, false, true] rfl ?_
        simp only [go_sem]
        refine AWp.cond _ rfl (fun hc3 => ?_) (fun hc3 => ?_)
        · skip
          try simp only [decide_eq_true_eq] at hc3
          have hw : wordR l i tsT = .err i 3 := kdS_er (h3.symm.trans hc3)
          refine AWp.dsN false [1, 2] [0] [3] 4 [5] rfl (by kernel_rfl) rfl fun K17 hK17 => ?_
          try simp only [go_sem]
          refine Exists.intro (fun h' : AH => getO b8 h'.objs = some ⟨8, 1, [[.d (.int .i64 kd), .d (.int .i64 0), .d (.int .i64 0), .nils, .nils, .d (.bool false), .d (.int .i64 0), .nils]]⟩) (And.intro (by simp [getO]) ?_)
          try simp only [go_sem]
          refine FRN.ld rfl rfl (fun h' m1 => (by first | rfl | (simp only [go_sem, m1]; first | done | rfl | exact ⟨by omega, rfl⟩))) ?_
          try simp only [go_sem]
          refine FRN.nil ?_
          refine DW.acp [b] [] rfl rfl rfl rfl (by (try simp only [go_sem, pob, fb6, fb8]); rfl) rfl (pstop_c T b l (i) _ _ 3 (by decide)) ?_
          rintro _ _ ⟨rfl, rfl⟩
          try simp only [go_sem, pob, fb8]
          first | with_reducible refine And.intro (by simp [getO, pob, tcast, nA, tA, txA, tsA, tstA, Int.toNat_natCast, fb6, fb8]) ?_ | skip
          refine lvc_ok _ _ _ ?_
          try simp only [go_sem, fb6, fb8]
          refine hK17 _ _ ?_
          try clear hK17 K17
          refine AWp.mask [false, false, false, true, true] rfl ?_
          simp only [go_sem]
          refine AWp.ret ?_
          try simp only [thenQ]
          apply endW_r [b6, b8] [] [b] [] (by (try simp only [go_sem, fb6, fb8]); rfl)
          · refine ⟨(.mk kd 0 0 [] [] false 0 []), i, _, _, rfl, by first | rfl | (simp only [go_sem, pob, fb6, fb8]; done) | (simp only [go_sem, pob, fb6, fb8]; rfl), by omega, ?_⟩
            rw [te_w hd0 hw]
            exact RR.er_ _ _ (gv_ne (by decide))
          · simp [LeA, LeL, LeD, tstA, kidsD, kidsL_eq, Tst.kind, Tst.mat, Tst.part, Tst.names, Tst.keys, Tst.over, Tst.limit, tsA]
        · skip
          try simp only [decide_eq_false_iff_not] at hc3
          have hw : wordR l i tsT = .ok kd (i + 1) := by have h9 := kdS_ok (tab := tsT) (l := l) (i := i) (fun h8 => hc3 (h3.trans h8)); rw [show kdS tsT l i tsT.length = kd from h3.symm] at h9; exact h9
          obtain ⟨w1, w2, w3, w4⟩ := wordR_ok hw
          clear w4
          have wlt := nx_lt w1
          refine AWp.skip ?_
          refine thenQ_n ?_
          refine hK15 _ _ ?_
          try clear hK15 K15
          refine AWp.rs fun K18 hK18 => ?_
          try simp only [go_sem, tcast]
          (repeat (with_reducible refine And.intro ?_ ?_; omega))
          refine hK18 _ _ ?_
          try clear hK18 K18
          obtain ⟨j, hj⟩ : ∃ j : Nat, j = i + 1 := ⟨_, rfl⟩
          rw [← hj]
          rw [← hj] at hw
          refine AWp.seq fun K19 hK19 => ?_
          refine AWp.rs fun K20 hK20 => ?_
          try simp only [go_sem, fb8]
          refine hK20 _ _ ?_
          try clear hK20 K20
          refine AWp.mask [true, true, true, true, true, false, false, false, false, true] rfl ?_
          simp only [go_sem]
          refine AWp.block ?_
          refine AWp.rs fun K21 hK21 => ?_
          try simp only [go_sem]
          refine hK21 _ _ ?_
          try clear hK21 K21
          refine AWp.cond _ rfl (fun hc4 => ?_) (fun hc4 => ?_)
          · skip
            try simp only [decide_eq_true_eq] at hc4
            subst hc4
            have hno2 : testR nn l j (d + 1) ≠ .oof := by have h9 := hno; rw [te_3 hd0 hw] at h9; exact Rd.bind_no h9
            have hd6 : d + 1 ≤ 7 := by rcases Nat.lt_or_ge 6 d with h9 | h9; exact absurd ⟨h9, wlt⟩ hd0; omega
            refine AWp.rs fun K22 hK22 => ?_
            try simp only [go_sem, tcast]
            (repeat (with_reducible refine And.intro ?_ ?_; omega))
            refine DW.acp [b] [] rfl rfl rfl rfl (by (try simp only [go_sem, pob, fb6, fb8]); rfl) rfl (ih nn (Nat.le_refl _) b l j (d + 1) _ _ hl (by omega) hd6 hno2) ?_
            rintro _ _ ⟨ax, nx, fx, ex, rfl, rfl, ubx, rx⟩
            try simp only [go_sem, pob, tsA, tstA]
            intro b10
            first | intro fb10 | have fb10 := True.intro
            try simp only [freshL] at fb10
            refine hK22 _ _ ?_
            try clear hK22 K22
            refine AWp.mask [false, false, false, true, true, true, true] rfl ?_
            simp only [go_sem]
            refine AWp.ownNilH b8 0 7 8 (by (try simp only [go_sem, fb8, fb10]); rfl) rfl rfl (by decide) fun t9 ft9 => ?_
            try simp only [freshT] at ft9
            simp only [go_sem, fb8, fb10]
            refine AWp.rs fun K23 hK23 => ?_
            try simp only [go_sem, fb8, fb10]
            refine DW.app rfl rfl rfl rfl (show slI Tryd.prog 87 = some (89, 8, 112) by simp only [go_sem]) rfl rfl (by simp only [go_sem]) (by first | exact .inl rfl | exact .inr rfl) (by (try simp only [go_sem]); (try simp only [List.length_map, List.length_append, List.length_cons, List.length_nil]); first | done | omega) (by (try simp only [go_sem]); (try simp only [List.length_map, List.length_append, List.length_cons, List.length_nil]); first | done | omega) fun t1 ft1 => ?_
            try simp only [freshT] at ft1
            try simp only [go_sem, fb8, fb10]
            refine hK23 _ _ ?_
            try clear hK23 K23
            refine AWp.mask [true, true, false, true] rfl ?_
            simp only [go_sem]
            refine AWp.rk fun K24 hK24 => ?_
            try simp only [go_sem]
            refine hK24 _ _ ?_
            try clear hK24 K24
            refine blkQ_n (thenQ_n ?_)
            refine hK19 _ _ ?_
            try clear hK19 K19
            refine AWp.rs fun K25 hK25 => ?_
            try simp only [go_sem, fb6, fb8, fb10]
            refine hK25 _ _ ?_
            try clear hK25 K25
            refine AWp.mask [false, true, true] rfl ?_
            simp only [go_sem]
            refine AWp.ret ?_
            apply endW_r [b6, b8, b10] [t1] [b] [] (by (try simp only [go_sem, fb6, fb8, fb10]); rfl)
            · refine ⟨(.mk 3 0 0 [] [] false 0 [ax]), nx, fx, ex, rfl, by first | rfl | (simp only [go_sem, pob, fb6, fb8, fb10]; done) | (simp only [go_sem, pob, tcast, nA, tA, txA, tsA, tstA, Int.toNat_natCast, fb6, fb8, fb10, ft9, ft1]; rfl), by omega, ?_⟩
              rw [te_3 hd0 hw]
              by_cases h9 : ex = 0
              · refine rx.next hno2 h9 ?_
                obtain ⟨_, rfl⟩ := rx.ok0 hno2 h9
                subst h9
                exact RR.ok_ _ _
              · exact rx.thru hno2 h9 _ _
            · simp [LeA, LeL, LeD, tstA, kidsD, kidsL_eq, tstD, Tst.kind, Tst.mat, Tst.part, Tst.names, Tst.keys, Tst.over, Tst.limit, tsA]
          · skip
            try simp only [decide_eq_false_iff_not] at hc4
            refine AWp.seq fun K26 hK26 => ?_
            refine AWp.rs fun K27 hK27 => ?_
            try simp only [go_sem]
            refine hK27 _ _ ?_
            try clear hK27 K27
            refine AWp.mask [true, true, true, true, true, true, false, false, true] rfl ?_
            simp only [go_sem]
            apply AWp.boK (z := (_ || _)) hK26 [true, true, true, true, true, true] 69
            · skip
              refine AWp.cond _ rfl (fun hc5 => ?_) (fun hc5 => ?_)
              rotate_left
              · skip
                refine AWp.rk fun K28 hK28 => ?_
                try simp only [go_sem]
                refine hK28 _ _ ?_
                try clear hK28 K28
                refine thenQ_n ?_
                refine EndS.mkr [true, true, true, true, true, true] [false, false, false, false, false, false, true] rfl ?_ ?_
                · (try simp only [go_sem]) <;> try rfl
                exact .e ⟨EqS.bo (or_f hc5 rfl), ⟨rfl⟩⟩
              · skip
                refine AWp.skip ?_
                refine thenQ_n ?_
                refine EndS.mkr [true, true, true, true, true, true] [false, false, false, false, false, false, true] rfl ?_ ?_
                · (try simp only [go_sem]) <;> try rfl
                exact .e ⟨EqS.bo (or_t hc5), ⟨rfl⟩⟩
            · skip
              simp only [go_sem]
              refine AWp.cond _ rfl (fun hc6 => ?_) (fun hc6 => ?_)
              · skip
                try simp only [decide_eq_true_eq, Bool.or_eq_true] at hc6
                have hk4 : kd = 4 ∨ kd = 5 := by omega
                have hd6 : d + 1 ≤ 7 := by rcases Nat.lt_or_ge 6 d with h9 | h9; exact absurd ⟨h9, wlt⟩ hd0; omega
                refine AWp.rs fun K29 hK29 => ?_
                try simp only [go_sem]
                refine DW.acp [b] [] rfl rfl rfl rfl (by (try simp only [go_sem, pob, fb6, fb8]); rfl) rfl (pmark_c T b l j _ _ [40] (by omega)) ?_
                rintro _ _ ⟨a9, n9, f9, e9, rfl, rfl, ub9, r9⟩
                try simp only [go_sem, pob, nA]
                refine hK29 _ _ ?_
                try clear hK29 K29
                refine AWp.mask [true, true, true, true, true] rfl ?_
                simp only [go_sem]
                refine AWp.ownNilH b8 0 7 8 (by (try simp only [go_sem, fb8]); rfl) rfl rfl (by decide) fun t9 ft9 => ?_
                try simp only [freshT] at ft9
                simp only [go_sem, fb8]
                refine AWp.seq fun K30 hK30 => ?_
                refine AWp.block ?_
                refine AWp.loopS [true, false, true, true, true] [false, true] (fun n lc hc => ∃ (v m w : Nat) (f e : Int) (acc : List Tst), n = (if e = 0 then m + 1 else 0) ∧ EqS lc [(1, .d (.int .i64 (v : Nat)))] ∧ EqS hc (⟨pob b l f e :: (b8, ⟨8, 1, [[.d (.int .i64 kd), .d (.int .i64 0), .d (.int .i64 0), .nils, .nils, .d (.bool false), .d (.int .i64 0), .own w 8 (acc.map tstD)]]⟩) :: (b6, ⟨8, 1, [[.d (.int .i64 0), .d (.int .i64 0), .d (.int .i64 0), .nils, .nils, .d (.bool false), .d (.int .i64 0), .nils]]⟩) :: F, w :: L⟩) ∧ (v ≤ 500) ∧ (m ≤ nn) ∧ (acc.length ≤ 402) ∧ (freshT w L) ∧ (e = 0 → f = 0 ∧ v ≤ l.length ∧ acc.length ≤ v ∧ testR (nn + 1) l i d = (testR m l v (d + 1)).bind fun x j2 => testsR m l j2 d kd (acc ++ [x])) ∧ (¬ e = 0 → ∀ y m, RR l (testR (nn + 1) l i d) y m f e)) rfl ?_ ?_
                · refine ⟨_, n9, nn, t9, f9, e9, [], rfl, ?_, ?_, ?_, ?_, ?_, ?_, ?_, ?_⟩
                  · (try simp only [go_sem]) <;> first | exact ⟨rfl⟩ | (constructor; simp; done)
                  · (try simp only [go_sem, pob]) <;> first | exact ⟨rfl⟩ | (constructor; simp; done)
                  all_goals (first | omega | (simp; done) | exact ft9 | (intro h; obtain ⟨q1, q2⟩ := r9.ok0 (mustR_oof _ _ _) h; obtain ⟨q3, q4⟩ := mustR_ok q1; have q5 := isT_lt q3; exact ⟨q2, by omega, by simp, by rw [te_4 hd0 hw hk4, q1, Rd.bind_ok]; rfl⟩) | (intro h y m; rw [te_4 hd0 hw hk4]; exact r9.thru (mustR_oof _ _ _) h _ _))
                · rintro _ _ _ ⟨v, m, w, f, e, acc, rfl, ⟨rfl⟩, ⟨rfl⟩, g1, g2, g3, g4, g5, g6⟩
                  simp only [go_sem]
                  refine AWp.seq fun K31 hK31 => ?_
                  refine AWp.rs fun K32 hK32 => ?_
                  try simp only [go_sem, fb6, fb8]
                  refine hK32 _ _ ?_
                  try clear hK32 K32
                  refine AWp.mask [true, true, true, true, true, false, false, false, false, true] rfl ?_
                  simp only [go_sem]
                  refine AWp.cond _ rfl (fun hc7 => ?_) (fun hc7 => ?_)
                  · skip
                    try simp only [decide_eq_true_eq] at hc7
                    subst hc7
                    obtain ⟨rfl, o2, o3, o4⟩ := g5 rfl
                    have hno2 : testR m l v (d + 1) ≠ .oof := by have h9 := hno; rw [o4] at h9; exact Rd.bind_no h9
                    refine AWp.skip ?_
                    refine thenQ_n ?_
                    refine hK31 _ _ ?_
                    try clear hK31 K31
                    refine AWp.block ?_
                    refine AWp.rs fun K33 hK33 => ?_
                    try simp only [go_sem, tcast]
                    (repeat (with_reducible refine And.intro ?_ ?_; omega))
                    refine DW.acp [b] [] rfl rfl rfl rfl (by (try simp only [go_sem, pob, fb6, fb8]); rfl) rfl (ih m g2 b l v (d + 1) _ _ hl o2 hd6 hno2) ?_
                    rintro _ _ ⟨ax, nx, fx, ex, rfl, rfl, ubx, rx⟩
                    try simp only [go_sem, pob, tsA, tstA]
                    intro b12
                    first | intro fb12 | have fb12 := True.intro
                    try simp only [freshL] at fb12
                    refine hK33 _ _ ?_
                    try clear hK33 K33
                    refine AWp.mask [true, false, true, true, true, true, true] rfl ?_
                    simp only [go_sem]
                    refine AWp.rs fun K34 hK34 => ?_
                    try simp only [go_sem, fb8, fb12]
                    refine DW.app rfl rfl rfl rfl (show slI Tryd.prog 87 = some (89, 8, 112) by simp only [go_sem]) rfl rfl (by simp only [go_sem]) (by first | exact .inl rfl | exact .inr rfl) (by (try simp only [go_sem]); (try simp only [List.length_map, List.length_append, List.length_cons, List.length_nil]); first | done | omega) (by (try simp only [go_sem]); (try simp only [List.length_map, List.length_append, List.length_cons, List.length_nil]); first | done | omega) fun t2 ft2 => ?_
                    try simp only [freshT] at ft2
                    try simp only [go_sem, fb8, fb12]
                    refine hK34 _ _ ?_
                    try clear hK34 K34
                    refine AWp.mask [true, true, true, true, false, true] rfl ?_
                    simp only [go_sem]
                    refine AWp.rs fun K35 hK35 => ?_
                    try simp only [go_sem]
                    refine hK35 _ _ ?_
                    try clear hK35 K35
                    refine AWp.ord [] [] [b] [] (by (try simp only [go_sem, fb12, fb8, fb6]); rfl) ?_
                    refine AWp.seq fun K36 hK36 => ?_
                    by_cases he : ex = 0
                    · skip
                      obtain ⟨q1, q2⟩ := rx.ok0 hno2 he
                      subst he q2
                      have lx := (test_le m).1 _ _ _ _ _ q1
                      have o5 : testR (nn + 1) l i d = testsR m l nx d kd (acc ++ [ax]) := by rw [o4, q1, Rd.bind_ok]
                      obtain ⟨m, rfl⟩ : ∃ m2, m = m2 + 1 := by cases m with | zero => exact absurd (by rw [o5, testsR]) hno | succ m => exact ⟨m, rfl⟩
                      refine AWp.rsG 8 fun K37 hK37 => ?_
                      simp only [List.take_succ_cons, List.take_zero, List.drop_succ_cons, List.drop_zero]
                      try simp only [go_sem, fb6, fb8, fb12, Bool.false_eq_true, if_false, eq_self, if_true, decide_true, Bool.not_true]
                      refine LV.gcall rfl rfl (by first | rfl | (simp only [go_sem, pob, tcast, nA, tA, txA, tsA, tstA, Int.toNat_natCast, fb6, fb8, ft9, g4, fb12, ft2, Bool.false_eq_true, if_false, eq_self, if_true, decide_true, Bool.not_true, Bool.not_false]; done) | (simp only [go_sem, pob, tcast, nA, tA, txA, tsA, tstA, Int.toNat_natCast, fb6, fb8, ft9, g4, fb12, ft2, Bool.false_eq_true, if_false, eq_self, if_true, decide_true, Bool.not_true, Bool.not_false]; rfl)) rfl rfl (by rfl) (LeH.refl _) (by first | rfl | (simp only [go_sem, pob, tcast, nA, tA, txA, tsA, tstA, Int.toNat_natCast, fb6, fb8, ft9, g4, fb12, ft2, Bool.false_eq_true, if_false, eq_self, if_true, decide_true, Bool.not_true, Bool.not_false]; done) | (simp only [go_sem, pob, tcast, nA, tA, txA, tsA, tstA, Int.toNat_natCast, fb6, fb8, ft9, g4, fb12, ft2, Bool.false_eq_true, if_false, eq_self, if_true, decide_true, Bool.not_true, Bool.not_false]; rfl)) (pisMark_c T b l (nx) _ _ _ _ [44]) ?_
                      rintro _ _ ⟨rfl, rfl⟩
                      refine LV.leH (LeH.refl _) (LV.lvc ?_)
                      try simp only [go_sem, pob, Bool.false_eq_true, if_false, eq_self, if_true]
                      refine hK37 _ _ ?_
                      try clear hK37 K37
                      refine AWp.mask [true, true, true, true, true, false, false, false, false, false, false, false, false, false, false, false, false, true] rfl ?_
                      simp only [go_sem]
                      refine AWp.cond _ rfl (fun hc8 => ?_) (fun hc8 => ?_)
                      · skip
                        try simp only [Bool.not_eq_true'] at hc8
                        have him : isT l nx 5 [44] = false := by simpa using hc8
                        refine AWp.exit ?_
                        refine thenQ_e (blkQ_d (by decide) (thenQ_e (blkQ_e (thenQ_n ?_))))
                        refine hK30 _ _ ?_
                        try clear hK30 K30
                        refine AWp.rs fun K38 hK38 => ?_
                        try simp only [go_sem, fb6, fb8, fb12, Bool.false_eq_true, if_false, eq_self, if_true, decide_true]
                        refine hK38 _ _ ?_
                        try clear hK38 K38
                        refine AWp.mask [true, true, false, true, true, false, false, false, false, false, true] rfl ?_
                        simp only [go_sem]
                        refine AWp.cond _ rfl (fun hc9 => ?_) (fun hc9 => ?_)
                        · skip
                          try simp only [] at hc9
                          refine AWp.rk fun K39 hK39 => ?_
                          try simp only [go_sem, if_false, eq_self, if_true]
                          refine DW.acp [b] [] rfl rfl rfl rfl (by (try simp only [go_sem, pob, fb6, fb8, fb12, Bool.false_eq_true, if_false, eq_self, if_true]); rfl) rfl (pmark_c T b l nx _ _ [41] (by omega)) ?_
                          rintro _ _ ⟨az, nz, fz, ez, rfl, rfl, ubz, rz⟩
                          try simp only [go_sem, pob, nA, if_false, eq_self, if_true]
                          refine hK39 _ _ ?_
                          try clear hK39 K39
                          refine blkQ_n (thenQ_n ?_)
                          refine hK19 _ _ ?_
                          try clear hK19 K19
                          refine AWp.mask [false, true, true, true] rfl ?_
                          simp only [go_sem]
                          refine AWp.rs fun K40 hK40 => ?_
                          try simp only [go_sem, fb6, fb8, fb12, Bool.false_eq_true, if_false, eq_self, if_true]
                          refine hK40 _ _ ?_
                          try clear hK40 K40
                          refine AWp.mask [false, true, true] rfl ?_
                          simp only [go_sem]
                          refine AWp.ret ?_
                          apply endW_r [b6, b8, b12] [t2] [b] [] (by (try simp only [go_sem, fb6, fb8, fb12, Bool.false_eq_true, if_false, eq_self, if_true]); rfl)
                          · refine ⟨(.mk kd 0 0 [] [] false 0 (acc ++ [ax])), nz, fz, ez, rfl, by first | rfl | (simp only [go_sem, pob, fb6, fb8, fb12, Bool.false_eq_true, if_false, eq_self, if_true]; done) | (simp only [go_sem, pob, tcast, nA, tA, txA, tsA, tstA, Int.toNat_natCast, fb6, fb8, ft9, g4, fb12, ft2, Bool.false_eq_true, if_false, eq_self, if_true, decide_true, Bool.not_true, Bool.not_false]; rfl), by omega, ?_⟩
                            rw [o5, ts_f him]
                            by_cases h9 : ez = 0
                            · refine rz.next (mustR_oof _ _ _) h9 ?_
                              obtain ⟨_, rfl⟩ := rz.ok0 (mustR_oof _ _ _) h9
                              subst h9
                              exact RR.ok_ _ _
                            · exact rz.thru (mustR_oof _ _ _) h9 _ _
                          · simp [LeA, LeL, LeD, tstA, kidsD, kidsL_eq, tstD, Tst.kind, Tst.mat, Tst.part, Tst.names, Tst.keys, Tst.over, Tst.limit, tsA]
                        · skip
                          exact absurd hc9 (by simp)
                      · skip
                        try simp only [Bool.not_eq_false'] at hc8
                        have him : isT l nx 5 [44] = true := by simpa using hc8
                        refine AWp.skip ?_
                        refine thenQ_n ?_
                        refine hK36 _ _ ?_
                        try clear hK36 K36
                        refine AWp.rk fun K41 hK41 => ?_
                        try simp only [go_sem, tcast, if_false, eq_self, if_true]
                        (repeat (with_reducible refine And.intro ?_ ?_; omega))
                        refine hK41 _ _ ?_
                        try clear hK41 K41
                        refine blkQ_n (thenQ_n ?_)
                        refine EndS.mk [true, false, true, true, true] [false, true] [b12] [] [b, b8, b6] [t2] rfl ?_ ?_
                        · (try simp only [go_sem, eq_self]) <;> try rfl
                        refine .e ⟨_, ?_, (nx + 1), m, t2, 0, 0, (acc ++ [ax]), rfl, ?_, ?_, ?_, ?_, ?_, ?_, ?_, ?_⟩
                        · first | omega | (simp; omega) | (simp)
                        · (try simp only [go_sem]) <;> first | exact ⟨rfl⟩ | (constructor; simp; done)
                        · (try simp only [go_sem, fb6, fb8, fb12, Bool.false_eq_true, if_false, eq_self, if_true]) <;> first | exact ⟨rfl⟩ | (constructor; simp [tstD]; done)
                        · omega
                        · omega
                        · simp; omega
                        · first | exact ft2 | exact ft2.2
                        · intro _; exact ⟨rfl, by have := isT_lt him; omega, by simp; omega, by rw [o5, ts_t him]⟩
                        · intro h; exact absurd rfl h
                    · skip
                      refine AWp.rs fun K37 hK37 => ?_
                      try simp only [go_sem, fb6, fb8, fb12, he, decide_false, Bool.not_false, Bool.not_true]
                      refine DW.skipc rfl rfl ?_
                      try simp only [go_sem, Bool.not_true]
                      (repeat (with_reducible refine And.intro ?_ ?_; decide))
                      refine hK37 _ _ ?_
                      try clear hK37 K37
                      refine AWp.mask [true, true, true, true, true, false, false, false, false, false, false, false, false, false, false, false, false, true] rfl ?_
                      simp only [go_sem]
                      refine AWp.cond _ rfl (fun hc8 => ?_) (fun hc8 => ?_)
                      · skip
                        try simp only [] at hc8
                        refine AWp.exit ?_
                        refine thenQ_e (blkQ_d (by decide) (thenQ_e (blkQ_e (thenQ_n ?_))))
                        refine hK30 _ _ ?_
                        try clear hK30 K30
                        refine AWp.rs fun K42 hK42 => ?_
                        try simp only [go_sem, fb6, fb8, fb12, he, decide_false]
                        refine hK42 _ _ ?_
                        try clear hK42 K42
                        refine AWp.mask [true, true, false, true, true, false, false, false, false, false, true] rfl ?_
                        simp only [go_sem]
                        refine AWp.cond _ rfl (fun hc9 => ?_) (fun hc9 => ?_)
                        · skip
                          exact absurd hc9 (by simp)
                        · skip
                          try simp only [] at hc9
                          refine AWp.skip ?_
                          refine blkQ_n (thenQ_n ?_)
                          refine hK19 _ _ ?_
                          try clear hK19 K19
                          refine AWp.rs fun K43 hK43 => ?_
                          try simp only [go_sem, fb6, fb8, fb12]
                          refine hK43 _ _ ?_
                          try clear hK43 K43
                          refine AWp.mask [false, false, true, true] rfl ?_
                          simp only [go_sem]
                          refine AWp.ret ?_
                          apply endW_r [b6, b8, b12] [t2] [b] [] (by (try simp only [go_sem, fb6, fb8, fb12]); rfl)
                          · refine ⟨(.mk kd 0 0 [] [] false 0 (acc ++ [ax])), nx, fx, ex, rfl, by first | rfl | (simp only [go_sem, pob, fb6, fb8, fb12]; done) | (simp only [go_sem, pob, tcast, nA, tA, txA, tsA, tstA, Int.toNat_natCast, fb6, fb8, ft9, g4, fb12, ft2, he, decide_false, Bool.not_false, Bool.not_true]; rfl), by omega, ?_⟩
                            rw [o4]
                            exact rx.thru hno2 he _ _
                          · simp [LeA, LeL, LeD, tstA, kidsD, kidsL_eq, tstD, Tst.kind, Tst.mat, Tst.part, Tst.names, Tst.keys, Tst.over, Tst.limit, tsA]
                      · skip
                        exact absurd hc8 (by simp)
                  · skip
                    try simp only [decide_eq_false_iff_not] at hc7
                    refine AWp.exit ?_
                    refine thenQ_e (thenQ_e (blkQ_e (thenQ_n ?_)))
                    refine hK30 _ _ ?_
                    try clear hK30 K30
                    refine AWp.rs fun K44 hK44 => ?_
                    try simp only [go_sem, fb6, fb8]
                    refine hK44 _ _ ?_
                    try clear hK44 K44
                    refine AWp.mask [true, true, false, true, true, false, false, false, false, false, true] rfl ?_
                    simp only [go_sem]
                    refine AWp.cond _ rfl (fun hc9 => ?_) (fun hc9 => ?_)
                    · skip
                      exact absurd hc9 (by simpa using hc7)
                    · skip
                      try simp only [decide_eq_false_iff_not] at hc9
                      refine AWp.skip ?_
                      refine blkQ_n (thenQ_n ?_)
                      refine hK19 _ _ ?_
                      try clear hK19 K19
                      refine AWp.rs fun K45 hK45 => ?_
                      try simp only [go_sem, fb6, fb8]
                      refine hK45 _ _ ?_
                      try clear hK45 K45
                      refine AWp.mask [false, false, true, true] rfl ?_
                      simp only [go_sem]
                      refine AWp.ret ?_
                      apply endW_r [b6, b8] [w] [b] [] (by (try simp only [go_sem, fb6, fb8]); rfl)
                      · refine ⟨(.mk kd 0 0 [] [] false 0 acc), v, f, e, rfl, by first | rfl | (simp only [go_sem, pob, fb6, fb8]; done) | (simp only [go_sem, pob, tcast, nA, tA, txA, tsA, tstA, Int.toNat_natCast, fb6, fb8, ft9, g4]; rfl), by omega, ?_⟩
                        exact g6 hc7 _ _
                      · simp [LeA, LeL, LeD, tstA, kidsD, kidsL_eq, Tst.kind, Tst.mat, Tst.part, Tst.names, Tst.keys, Tst.over, Tst.limit, tsA]
              · skip
                try simp only [decide_eq_false_iff_not, Bool.or_eq_false_iff] at hc6
                have hk4 : ¬ (kd = 4 ∨ kd = 5) := by omega
                refine AWp.seq fun K46 hK46 => ?_
                refine AWp.rs fun K47 hK47 => ?_
                try simp only [go_sem]
                refine hK47 _ _ ?_
                try clear hK47 K47
                refine AWp.mask [true, true, false, true, true, true, false, true] rfl ?_
                simp only [go_sem]
                apply AWp.boK (z := (_ || (_ || _))) hK46 [true, true, true, true, true] 116
                · skip
                  refine AWp.cond _ rfl (fun hc10 => ?_) (fun hc10 => ?_)
                  rotate_left
                  · skip
                    refine AWp.rs fun K48 hK48 => ?_
                    try simp only [go_sem]
                    refine hK48 _ _ ?_
                    try clear hK48 K48
                    refine AWp.cond _ rfl (fun hc11 => ?_) (fun hc11 => ?_)
                    rotate_left
                    · skip
                      refine AWp.rk fun K49 hK49 => ?_
                      try simp only [go_sem]
                      refine hK49 _ _ ?_
                      try clear hK49 K49
                      refine thenQ_n ?_
                      refine EndS.mkr [true, true, true, true, true] [false, false, false, false, false, true] rfl ?_ ?_
                      · (try simp only [go_sem]) <;> try rfl
                      exact .e ⟨EqS.bo (or_f hc10 (or_f hc11 rfl)), ⟨rfl⟩⟩
                    · skip
                      refine AWp.skip ?_
                      refine thenQ_n ?_
                      refine EndS.mkr [true, true, true, true, true] [false, false, false, false, false, true] rfl ?_ ?_
                      · (try simp only [go_sem]) <;> try rfl
                      exact .e ⟨EqS.bo (or_f hc10 (or_t hc11)), ⟨rfl⟩⟩
                  · skip
                    refine AWp.skip ?_
                    refine thenQ_n ?_
                    refine EndS.mkr [true, true, true, true, true] [false, false, false, false, false, true] rfl ?_ ?_
                    · (try simp only [go_sem]) <;> try rfl
                    exact .e ⟨EqS.bo (or_t hc10), ⟨rfl⟩⟩
                · skip
                  simp only [go_sem]
                  refine AWp.cond _ rfl (fun hc12 => ?_) (fun hc12 => ?_)
                  · skip
                    try simp only [decide_eq_true_eq, Bool.or_eq_true] at hc12
                    have hk6 : kd = 6 ∨ kd = 7 ∨ kd = 8 := by omega
                    refine AWp.rk fun K50 hK50 => ?_
                    try simp only [go_sem, fb8]
                    refine DW.acp [b] [] rfl rfl rfl rfl (by (try simp only [go_sem, pob, fb6, fb8]); rfl) rfl (pcompares_c T b l j kd _ _ hl (by omega)) ?_
                    rintro _ _ ⟨av, nv, fv, ev, rfl, rfl, ubv, rv⟩
                    try simp only [go_sem, pob, tsA, tstA, fb8]
                    refine hK50 _ _ ?_
                    try clear hK50 K50
                    refine blkQ_n (thenQ_n ?_)
                    refine hK19 _ _ ?_
                    try clear hK19 K19
                    refine AWp.mask [false, true, true, true] rfl ?_
                    simp only [go_sem]
                    refine AWp.rs fun K51 hK51 => ?_
                    try simp only [go_sem, fb6, fb8]
                    refine hK51 _ _ ?_
                    try clear hK51 K51
                    refine AWp.mask [false, true, true] rfl ?_
                    simp only [go_sem]
                    refine AWp.ret ?_
                    apply endW_r [b6, b8] [] [b] [] (by (try simp only [go_sem, fb6, fb8]); rfl)
                    · refine ⟨av, nv, fv, ev, rfl, by first | rfl | (simp only [go_sem, pob, fb6, fb8]; done) | (simp only [go_sem, pob, tcast, nA, tA, txA, tsA, tstA, Int.toNat_natCast, fb6, fb8]; rfl), by omega, ?_⟩
                      rw [te_6 hd0 hw hk6]
                      exact rv
                    · simp [LeA, LeL, LeD, tstA, Tst.kind, Tst.mat, Tst.part, Tst.names, Tst.keys, Tst.over, Tst.limit, tsA]
                  · skip
                    try simp only [decide_eq_false_iff_not, Bool.or_eq_false_iff] at hc12
                    refine AWp.rs fun K52 hK52 => ?_
                    try simp only [go_sem]
                    refine hK52 _ _ ?_
                    try clear hK52 K52
                    refine AWp.cond _ rfl (fun hc13 => ?_) (fun hc13 => ?_)
                    · skip
                      try simp only [decide_eq_true_eq] at hc13
                      subst hc13
                      refine AWp.rk fun K53 hK53 => ?_
                      try simp only [go_sem]
                      refine DW.acp [b] [] rfl rfl rfl rfl (by (try simp only [go_sem, pob, fb6, fb8]); rfl) rfl (pstrs_c T b l j _ _ hl (by omega)) ?_
                      rintro _ _ ⟨au, nu, fu, eu, rfl, rfl, ubu, ru⟩
                      try simp only [go_sem, pob, txA, fb8]
                      refine hK53 _ _ ?_
                      try clear hK53 K53
                      refine blkQ_n (thenQ_n ?_)
                      refine hK19 _ _ ?_
                      try clear hK19 K19
                      refine AWp.mask [false, true, true, true] rfl ?_
                      simp only [go_sem]
                      refine AWp.rs fun K54 hK54 => ?_
                      try simp only [go_sem, fb6, fb8]
                      refine hK54 _ _ ?_
                      try clear hK54 K54
                      refine AWp.mask [false, true, true] rfl ?_
                      simp only [go_sem]
                      refine AWp.ret ?_
                      apply endW_r [b6, b8] [] [b] [] (by (try simp only [go_sem, fb6, fb8]); rfl)
                      · refine ⟨(.mk 9 0 0 au [] false 0 []), nu, fu, eu, rfl, by first | rfl | (simp only [go_sem, pob, fb6, fb8]; done) | (simp only [go_sem, pob, tcast, nA, tA, txA, tsA, tstA, Int.toNat_natCast, fb6, fb8]; rfl), by omega, ?_⟩
                        rw [te_9 hd0 hw]
                        by_cases h9 : eu = 0
                        · refine ru.next (strsR_oof _ _) h9 ?_
                          obtain ⟨_, rfl⟩ := ru.ok0 (strsR_oof _ _) h9
                          subst h9
                          exact RR.ok_ _ _
                        · exact ru.thru (strsR_oof _ _) h9 _ _
                      · simp [LeA, LeL, LeD, tstA, kidsD, kidsL_eq, Tst.kind, Tst.mat, Tst.part, Tst.names, Tst.keys, Tst.over, Tst.limit, tsA]
                    · skip
                      try simp only [decide_eq_false_iff_not] at hc13
                      refine AWp.rs fun K55 hK55 => ?_
                      try simp only [go_sem]
                      refine hK55 _ _ ?_
                      try clear hK55 K55
                      refine AWp.mask [true, true, true, true, false, false, false, false, true] rfl ?_
                      simp only [go_sem]
                      refine AWp.cond _ rfl (fun hc14 => ?_) (fun hc14 => ?_)
                      · skip
                        try simp only [decide_eq_true_eq] at hc14
                        subst hc14
                        refine AWp.seq fun K56 hK56 => ?_
                        rcases Nat.lt_or_ge j l.length with hlA | hlA
                        · skip
                          have hltA : (((j : Nat) : Int) < (l.length : Int)) = True := by simp; omega
                          have hgeA : ((l.length : Int) ≤ ((j : Nat) : Int)) = False := by simp; omega
                          have hgdA := tksD_gD l (j) [] hlA
                          have hgqA : l.getD (j) tk0 = l[j] := by simp [List.getD, List.getElem?_eq_getElem hlA]
                          refine AWp.rs fun K57 hK57 => ?_
                          try simp only [go_sem, Int.toNat_natCast, fb6, fb8, hgdA, tkD, hgeA, hltA]
                          (repeat (with_reducible refine And.intro ?_ ?_; (first | decide | (exact nfB) | (intro hg; simp at hg ⊢; first | omega | exact hg | grind))))
                          refine hK57 _ _ ?_
                          try clear hK57 K57
                          refine AWp.mask [true, true, true, true, false, false, false, false, false, false, false, false, false, false, false, false, false, false, false, false, false, false, false, false, false, false, false, false, false, false, false, false, false, false, false, false, false, false, false, false, false, false, false, false, true] rfl ?_
                          simp only [go_sem]
                          refine AWp.cond _ rfl (fun hc15 => ?_) (fun hc15 => ?_)
                          · skip
                            try simp only [decide_eq_true_eq, decide_eq_false_iff_not, Bool.not_eq_true', Bool.and_eq_true, Bool.or_eq_true] at hc15
                            have hou : ¬ (isT l j 2 overT = true ∨ isT l j 2 underT = true) := by first | (rw [isT_out hlA, isT_out hlA]; simp) | (rw [isT_in hlA, isT_in hlA]; simp only [Bool.and_eq_true, decide_eq_true_eq]; rintro (⟨q1, q2⟩ | ⟨q1, q2⟩) <;> simp [q1, q2, overT, underT] at hc15)
                            refine AWp.dsN false [1, 2] [0] [3] 4 [5] rfl (by kernel_rfl) rfl fun K58 hK58 => ?_
                            try simp only [go_sem]
                            refine Exists.intro (fun h' : AH => getO b8 h'.objs = some ⟨8, 1, [[.d (.int .i64 10), .d (.int .i64 0), .d (.int .i64 0), .nils, .nils, .d (.bool false), .d (.int .i64 0), .nils]]⟩) (And.intro (by simp [getO]) ?_)
                            try simp only [go_sem]
                            refine FRN.ld rfl rfl (fun h' m1 => (by first | rfl | (simp only [go_sem, m1]; first | done | rfl | exact ⟨by omega, rfl⟩))) ?_
                            try simp only [go_sem]
                            refine FRN.nil ?_
                            refine DW.acp [b] [] rfl rfl rfl rfl (by (try simp only [go_sem, pob, fb6, fb8]); rfl) rfl (pstop_c T b l (j) _ _ 3 (by decide)) ?_
                            rintro _ _ ⟨rfl, rfl⟩
                            try simp only [go_sem, pob, fb8]
                            first | with_reducible refine And.intro (by simp [getO, pob, tcast, nA, tA, txA, tsA, tstA, Int.toNat_natCast, fb6, fb8, hgdA, tkD, hgeA, hltA]) ?_ | skip
                            refine lvc_ok _ _ _ ?_
                            try simp only [go_sem, fb6, fb8]
                            refine hK58 _ _ ?_
                            try clear hK58 K58
                            refine AWp.mask [false, false, true, true] rfl ?_
                            simp only [go_sem]
                            refine AWp.ret ?_
                            try simp only [thenQ, blkQ]
                            apply endW_r [b6, b8] [] [b] [] (by (try simp only [go_sem, fb6, fb8]); rfl)
                            · refine ⟨(.mk 10 0 0 [] [] false 0 []), j, _, _, rfl, by first | rfl | (simp only [go_sem, pob, fb6, fb8]; done) | (simp only [go_sem, pob, fb6, fb8]; rfl), by omega, ?_⟩
                              rw [te_s hd0 hw, if_neg hou]
                              exact RR.er_ _ _ (gv_ne (by decide))
                            · simp [LeA, LeL, LeD, tstA, kidsD, kidsL_eq, Tst.kind, Tst.mat, Tst.part, Tst.names, Tst.keys, Tst.over, Tst.limit, tsA]
                          · skip
                            try simp only [decide_eq_true_eq, decide_eq_false_iff_not, Bool.not_eq_false', Bool.and_eq_false_iff, Bool.or_eq_false_iff] at hc15
                            have hou : isT l j 2 overT = true ∨ isT l j 2 underT = true := by rw [isT_in hlA, isT_in hlA]; simp only [Bool.and_eq_true, decide_eq_true_eq, overT, underT]; grind
                            have hov : isT l j 2 overT = decide ((l[j]).text = [111, 118, 101, 114]) := by rw [isT_in hlA]; simp only [overT]; rw [show (l[j]).kind = 2 by grind]; simp only [decide_true, Bool.true_and]; exact decide_eq_decide.2 Iff.rfl
                            refine AWp.skip ?_
                            refine thenQ_n ?_
                            refine hK56 _ _ ?_
                            try clear hK56 K56
                            refine AWp.rs fun K59 hK59 => ?_
                            try simp only [go_sem, Int.toNat_natCast, fb6, fb8, hgdA, tkD, hltA]
                            refine hK59 _ _ ?_
                            try clear hK59 K59
                            refine AWp.mask [true, true, true, true] rfl ?_
                            simp only [go_sem]
                            refine AWp.rs fun K60 hK60 => ?_
                            try simp only [go_sem, tcast]
                            (repeat (with_reducible refine And.intro ?_ ?_; omega))
                            refine hK60 _ _ ?_
                            try clear hK60 K60
                            obtain ⟨j2, hj2⟩ : ∃ j2 : Nat, j2 = j + 1 := ⟨_, rfl⟩
                            rw [← hj2]
                            refine AWp.seq fun K61 hK61 => ?_
                            rcases Nat.lt_or_ge j2 l.length with hlB | hlB
                            · skip
                              have hltB : (((j2 : Nat) : Int) < (l.length : Int)) = True := by simp; omega
                              have hgeB : ((l.length : Int) ≤ ((j2 : Nat) : Int)) = False := by simp; omega
                              have hgdB := tksD_gD l (j2) [] hlB
                              have hgqB : l.getD (j2) tk0 = l[j2] := by simp [List.getD, List.getElem?_eq_getElem hlB]
                              refine AWp.rs fun K62 hK62 => ?_
                              try simp only [go_sem, Int.toNat_natCast, fb6, fb8, tkD, hgdB, tkD, hgeB, hltB]
                              (repeat (with_reducible refine And.intro ?_ ?_; decide))
                              refine hK62 _ _ ?_
                              try clear hK62 K62
                              refine AWp.mask [true, true, true, true, false, false, false, false, false, false, false, false, false, false, false, false, false, false, false, false, false, false, false, true] rfl ?_
                              simp only [go_sem]
                              refine AWp.cond _ rfl (fun hc16 => ?_) (fun hc16 => ?_)
                              · skip
                                try simp only [decide_eq_true_eq, decide_eq_false_iff_not, Bool.not_eq_true', Bool.or_eq_true] at hc16
                                have hk3 : ¬ (l[j2]).kind = 3 := by simpa using hc16
                                have hz : nextR l j2 3 = .err j2 3 := by rw [nextR, if_neg (by rw [nx, hgqB]; simp [hk3])]
                                refine AWp.dsN false [1, 2] [0] [3] 4 [5] rfl (by kernel_rfl) rfl fun K63 hK63 => ?_
                                try simp only [go_sem]
                                refine Exists.intro (fun h' : AH => getO b8 h'.objs = some ⟨8, 1, [[.d (.int .i64 10), .d (.int .i64 0), .d (.int .i64 0), .nils, .nils, .d (.bool (decide ((l[j]).text = [111, 118, 101, 114]))), .d (.int .i64 0), .nils]]⟩) (And.intro (by simp [getO]) ?_)
                                try simp only [go_sem]
                                refine FRN.ld rfl rfl (fun h' m1 => (by first | rfl | (simp only [go_sem, m1]; first | done | rfl | exact ⟨by omega, rfl⟩))) ?_
                                try simp only [go_sem]
                                refine FRN.nil ?_
                                refine DW.acp [b] [] rfl rfl rfl rfl (by (try simp only [go_sem, pob, fb6, fb8]); rfl) rfl (pstop_c T b l (j2) _ _ 3 (by decide)) ?_
                                rintro _ _ ⟨rfl, rfl⟩
                                try simp only [go_sem, pob, fb8]
                                first | with_reducible refine And.intro (by simp [getO, pob, tcast, nA, tA, txA, tsA, tstA, Int.toNat_natCast, fb6, fb8, hgdA, tkD, hgeA, hltA, hgdB, tkD, hgeB, hltB]) ?_ | skip
                                refine lvc_ok _ _ _ ?_
                                try simp only [go_sem, fb6, fb8]
                                refine hK63 _ _ ?_
                                try clear hK63 K63
                                refine AWp.mask [false, false, true, true] rfl ?_
                                simp only [go_sem]
                                refine AWp.ret ?_
                                try simp only [thenQ, blkQ]
                                apply endW_r [b6, b8] [] [b] [] (by (try simp only [go_sem, fb6, fb8]); rfl)
                                · refine ⟨(.mk 10 0 0 [] [] (decide ((l[j]).text = [111, 118, 101, 114])) 0 []), j2, _, _, rfl, by first | rfl | (simp only [go_sem, pob, fb6, fb8]; done) | (simp only [go_sem, pob, fb6, fb8]; rfl), by omega, ?_⟩
                                  rw [te_s hd0 hw, if_pos hou, ← hj2, hz, Rd.bind_er]
                                  exact RR.er_ _ _ (gv_ne (by decide))
                                · simp [LeA, LeL, LeD, tstA, kidsD, kidsL_eq, Tst.kind, Tst.mat, Tst.part, Tst.names, Tst.keys, Tst.over, Tst.limit, tsA]
                              · skip
                                try simp only [decide_eq_true_eq, decide_eq_false_iff_not, Bool.not_eq_false', Bool.or_eq_false_iff] at hc16
                                have hz : nextR l j2 3 = .ok (l[j2]) (j2 + 1) := by rw [nextR, if_pos (by rw [nx, hgqB]; simp [hlB]; first | exact hc16 | simpa using hc16), hgqB]
                                refine AWp.skip ?_
                                refine thenQ_n ?_
                                refine hK61 _ _ ?_
                                try clear hK61 K61
                                refine AWp.rs fun K64 hK64 => ?_
                                try simp only [go_sem, Int.toNat_natCast, fb6, fb8, tkD, hgdB, tkD, hltB]
                                refine hK64 _ _ ?_
                                try clear hK64 K64
                                refine AWp.mask [false, true, true, true] rfl ?_
                                simp only [go_sem]
                                refine AWp.rk fun K65 hK65 => ?_
                                try simp only [go_sem, tcast]
                                (repeat (with_reducible refine And.intro ?_ ?_; omega))
                                refine hK65 _ _ ?_
                                try clear hK65 K65
                                refine blkQ_n (thenQ_n ?_)
                                refine hK19 _ _ ?_
                                try clear hK19 K19
                                refine AWp.rs fun K66 hK66 => ?_
                                try simp only [go_sem, fb6, fb8]
                                refine hK66 _ _ ?_
                                try clear hK66 K66
                                refine AWp.mask [false, true, true] rfl ?_
                                simp only [go_sem]
                                refine AWp.ret ?_
                                apply endW_r [b6, b8] [] [b] [] (by (try simp only [go_sem, fb6, fb8]); rfl)
                                · refine ⟨(.mk 10 0 0 [] [] (decide ((l[j]).text = [111, 118, 101, 114])) (l[j2]).num []), (j2 + 1), 0, 0, rfl, by first | rfl | (simp only [go_sem, pob, fb6, fb8]; done) | (simp only [go_sem, pob, tcast, nA, tA, txA, tsA, tstA, Int.toNat_natCast, fb6, fb8, hgdA, tkD, hgeA, hltA, hgdB, tkD, hgeB, hltB]; rfl), by omega, ?_⟩
                                  rw [te_s hd0 hw, if_pos hou, ← hj2, hz, Rd.bind_ok, hov]
                                  exact RR.ok_ _ _
                                · simp [LeA, LeL, LeD, tstA, kidsD, kidsL_eq, Tst.kind, Tst.mat, Tst.part, Tst.names, Tst.keys, Tst.over, Tst.limit, tsA]
                            · skip
                              have hltB : (((j2 : Nat) : Int) < (l.length : Int)) = False := by simp; omega
                              have hgeB : ((l.length : Int) ≤ ((j2 : Nat) : Int)) = True := by simp; omega
                              have hgdB : (tksD l).getD (j2) [] = [] := by simp [tksD, List.getD, hlB]
                              refine AWp.rs fun K62 hK62 => ?_
                              try simp only [go_sem, Int.toNat_natCast, fb6, fb8, hgdB, List.drop_nil, List.take_nil, List.map_nil, List.headD_nil, hgeB, hltB, decide_true, Bool.not_true, Bool.false_eq_true, Bool.true_eq_false, false_imp_iff, true_and, and_true]
                              refine hK62 _ _ ?_
                              try clear hK62 K62
                              refine AWp.mask [true, true, true, true, false, false, false, false, false, false, false, false, false, false, false, false, false, false, false, false, false, false, false, true] rfl ?_
                              simp only [go_sem]
                              refine AWp.cond _ rfl (fun hc16 => ?_) (fun hc16 => ?_)
                              · skip
                                try simp only [] at hc16
                                have hz : nextR l j2 3 = .err j2 3 := by rw [nextR, if_neg (by simp [nx, Nat.not_lt.2 hlB])]
                                refine AWp.dsN false [1, 2] [0] [3] 4 [5] rfl (by kernel_rfl) rfl fun K67 hK67 => ?_
                                try simp only [go_sem, true_and]
                                refine Exists.intro (fun h' : AH => getO b8 h'.objs = some ⟨8, 1, [[.d (.int .i64 10), .d (.int .i64 0), .d (.int .i64 0), .nils, .nils, .d (.bool (decide ((l[j]).text = [111, 118, 101, 114]))), .d (.int .i64 0), .nils]]⟩) (And.intro (by simp [getO]) ?_)
                                try simp only [go_sem]
                                refine FRN.ld rfl rfl (fun h' m1 => (by first | rfl | (simp only [go_sem, List.take_nil, true_and, and_true, m1]; first | done | rfl | exact ⟨by omega, rfl⟩))) ?_
                                try simp only [go_sem]
                                refine FRN.nil ?_
                                refine DW.acp [b] [] rfl rfl rfl rfl (by (try simp only [go_sem, pob, fb6, fb8, Bool.false_eq_true]); rfl) rfl (pstop_c T b l (j2) _ _ 3 (by decide)) ?_
                                rintro _ _ ⟨rfl, rfl⟩
                                try simp only [go_sem, pob, fb8, Bool.false_eq_true, true_and]
                                first | with_reducible refine And.intro (by simp [getO, pob, tcast, nA, tA, txA, tsA, tstA, Int.toNat_natCast, fb6, fb8, hgdA, tkD, hgeA, hltA, hgdB, List.drop_nil, List.take_nil, List.map_nil, List.headD_nil, hgeB, hltB, decide_true, Bool.not_true, Bool.false_eq_true, Bool.true_eq_false, false_imp_iff, true_and, and_true]) ?_ | skip
                                refine lvc_ok _ _ _ ?_
                                try simp only [go_sem, fb6, fb8, List.drop_nil, Bool.false_eq_true, true_and, and_true]
                                refine hK67 _ _ ?_
                                try clear hK67 K67
                                refine AWp.mask [false, false, true, true] rfl ?_
                                simp only [go_sem]
                                refine AWp.ret ?_
                                try simp only [thenQ, blkQ]
                                apply endW_r [b6, b8] [] [b] [] (by (try simp only [go_sem, fb6, fb8, List.take_nil, Bool.false_eq_true, and_true]); rfl)
                                · refine ⟨(.mk 10 0 0 [] [] (decide ((l[j]).text = [111, 118, 101, 114])) 0 []), j2, _, _, rfl, by first | rfl | (simp only [go_sem, pob, fb6, fb8, Bool.false_eq_true]; done) | (simp only [go_sem, pob, fb6, fb8, Bool.false_eq_true]; rfl), by omega, ?_⟩
                                  rw [te_s hd0 hw, if_pos hou, ← hj2, hz, Rd.bind_er]
                                  exact RR.er_ _ _ (gv_ne (by decide))
                                · simp [LeA, LeL, LeD, tstA, kidsD, kidsL_eq, Tst.kind, Tst.mat, Tst.part, Tst.names, Tst.keys, Tst.over, Tst.limit, tsA]
                              · skip
                                exact absurd hc16 (by simp)
                        · skip
                          have hltA : (((j : Nat) : Int) < (l.length : Int)) = False := by simp; omega
                          have hgeA : ((l.length : Int) ≤ ((j : Nat) : Int)) = True := by simp; omega
                          have hgdA : (tksD l).getD (j) [] = [] := by simp [tksD, List.getD, hlA]
                          refine AWp.rs fun K57 hK57 => ?_
                          try simp only [go_sem, Int.toNat_natCast, fb6, fb8, hgdA, List.drop_nil, List.take_nil, List.map_nil, List.headD_nil, hgeA, hltA, decide_true, Bool.not_true, Bool.false_eq_true, Bool.true_eq_false, false_imp_iff, true_and, and_true]
                          refine hK57 _ _ ?_
                          try clear hK57 K57
                          refine AWp.mask [true, true, true, true, false, false, false, false, false, false, false, false, false, false, false, false, false, false, false, false, false, false, false, false, false, false, false, false, false, false, false, false, false, false, false, false, false, false, false, false, false, false, false, false, true] rfl ?_
                          simp only [go_sem]
                          refine AWp.cond _ rfl (fun hc15 => ?_) (fun hc15 => ?_)
                          · skip
                            try simp only [] at hc15
                            have hou : ¬ (isT l j 2 overT = true ∨ isT l j 2 underT = true) := by first | (rw [isT_out hlA, isT_out hlA]; simp) | (rw [isT_in hlA, isT_in hlA]; simp only [Bool.and_eq_true, decide_eq_true_eq]; rintro (⟨q1, q2⟩ | ⟨q1, q2⟩) <;> simp [q1, q2, overT, underT] at hc15)
                            refine AWp.dsN false [1, 2] [0] [3] 4 [5] rfl (by kernel_rfl) rfl fun K68 hK68 => ?_
                            try simp only [go_sem, true_and]
                            refine Exists.intro (fun h' : AH => getO b8 h'.objs = some ⟨8, 1, [[.d (.int .i64 10), .d (.int .i64 0), .d (.int .i64 0), .nils, .nils, .d (.bool false), .d (.int .i64 0), .nils]]⟩) (And.intro (by simp [getO]) ?_)
                            try simp only [go_sem]
                            refine FRN.ld rfl rfl (fun h' m1 => (by first | rfl | (simp only [go_sem, List.take_nil, true_and, and_true, m1]; first | done | rfl | exact ⟨by omega, rfl⟩))) ?_
                            try simp only [go_sem]
                            refine FRN.nil ?_
                            refine DW.acp [b] [] rfl rfl rfl rfl (by (try simp only [go_sem, pob, fb6, fb8, Bool.false_eq_true]); rfl) rfl (pstop_c T b l (j) _ _ 3 (by decide)) ?_
                            rintro _ _ ⟨rfl, rfl⟩
                            try simp only [go_sem, pob, fb8, Bool.false_eq_true, true_and]
                            first | with_reducible refine And.intro (by simp [getO, pob, tcast, nA, tA, txA, tsA, tstA, Int.toNat_natCast, fb6, fb8, hgdA, List.drop_nil, List.take_nil, List.map_nil, List.headD_nil, hgeA, hltA, decide_true, Bool.not_true, Bool.false_eq_true, Bool.true_eq_false, false_imp_iff, true_and, and_true]) ?_ | skip
                            refine lvc_ok _ _ _ ?_
                            try simp only [go_sem, fb6, fb8, List.drop_nil, Bool.false_eq_true, true_and, and_true]
                            refine hK68 _ _ ?_
                            try clear hK68 K68
                            refine AWp.mask [false, false, true, true] rfl ?_
                            simp only [go_sem]
                            refine AWp.ret ?_
                            try simp only [thenQ, blkQ]
                            apply endW_r [b6, b8] [] [b] [] (by (try simp only [go_sem, fb6, fb8, List.take_nil, Bool.false_eq_true, and_true]); rfl)
                            · refine ⟨(.mk 10 0 0 [] [] false 0 []), j, _, _, rfl, by first | rfl | (simp only [go_sem, pob, fb6, fb8, Bool.false_eq_true]; done) | (simp only [go_sem, pob, fb6, fb8, Bool.false_eq_true]; rfl), by omega, ?_⟩
                              rw [te_s hd0 hw, if_neg hou]
                              exact RR.er_ _ _ (gv_ne (by decide))
                            · simp [LeA, LeL, LeD, tstA, kidsD, kidsL_eq, Tst.kind, Tst.mat, Tst.part, Tst.names, Tst.keys, Tst.over, Tst.limit, tsA]
                          · skip
                            exact absurd hc15 (by simp)
                      · skip
                        try simp only [decide_eq_false_iff_not] at hc14
                        have hk0 : ¬ kd = 3 ∧ ¬ (kd = 4 ∨ kd = 5) ∧ ¬ (kd = 6 ∨ kd = 7 ∨ kd = 8) ∧ ¬ kd = 9 ∧ ¬ kd = 10 := ⟨by omega, by omega, by omega, by omega, by omega⟩
                        refine AWp.skip ?_
                        refine blkQ_n (thenQ_n ?_)
                        refine hK19 _ _ ?_
                        try clear hK19 K19
                        refine AWp.rs fun K69 hK69 => ?_
                        try simp only [go_sem, fb6, fb8]
                        refine hK69 _ _ ?_
                        try clear hK69 K69
                        refine AWp.mask [false, false, true, true] rfl ?_
                        simp only [go_sem]
                        refine AWp.ret ?_
                        apply endW_r [b6, b8] [] [b] [] (by (try simp only [go_sem, fb6, fb8]); rfl)
                        · refine ⟨(.mk kd 0 0 [] [] false 0 []), j, 0, 0, rfl, by first | rfl | (simp only [go_sem, pob, fb6, fb8]; done) | (simp only [go_sem, pob, tcast, nA, tA, txA, tsA, tstA, Int.toNat_natCast, fb6, fb8]; rfl), by omega, ?_⟩
                          rw [te_n hd0 hw hk0]
                          exact RR.ok_ _ _
                        · simp [LeA, LeL, LeD, tstA, kidsD, kidsL_eq, Tst.kind, Tst.mat, Tst.part, Tst.names, Tst.keys, Tst.over, Tst.limit, tsA]
end Go.Proofs.YthpkjmbdjnelfaaDoor

namespace Go.Proofs.YthpkjmbdjnelfaaDoor
set_option linter.unusedSimpArgs false
set_option linter.unusedVariables false
theorem ptest_n (T : Tbl) : ∀ (n m : Nat), m ≤ n → ∀ (b : Nat) (l : List Tk) (i d : Nat) (F : List (Nat × Ob)) (L : List Nat), l.length ≤ 400 → i ≤ l.length → d ≤ 7 → testR m l i d ≠ .oof → AC Tryd.prog T 136 [.ptr b 3 0 0, .d (.int .i64 (i : Nat)), .d (.int .i64 (d : Nat))] ⟨pob b l 0 0 :: F, L⟩ (RE 500 b F L l tsA (testR m l i d)) := by
  intro n
  induction n with
  | zero =>
    intro m hm b l i d F L hl hi hd hno
    obtain rfl : m = 0 := by omega
    exact absurd (by rw [testR]) hno
  | succ n ih =>
    intro m hm b l i d F L hl hi hd hno
    cases m with
    | zero => exact absurd (by rw [testR]) hno
    | succ m => exact ptest_s T m (fun m2 h2 => ih m2 (by omega)) b l i d F L hl hi hd hno
theorem ptest_c (T : Tbl) (n b : Nat) (l : List Tk) (i d : Nat) (F : List (Nat × Ob)) (L : List Nat) (hl : l.length ≤ 400) (hi : i ≤ l.length) (hd : d ≤ 7) (hno : testR n l i d ≠ .oof) : AC Tryd.prog T 136 [.ptr b 3 0 0, .d (.int .i64 (i : Nat)), .d (.int .i64 (d : Nat))] ⟨pob b l 0 0 :: F, L⟩ (RE 500 b F L l tsA (testR n l i d)) :=
  ptest_n T n n (Nat.le_refl _) b l i d F L hl hi hd hno
def cA : Cmd → Nat → AV := fun c n => .tup [.agg (cmdA c), .d (.int .i64 n)]
def csA : List Cmd → Nat → AV := fun c n => .tup [.d (.slc 12 (c.map cmdD)), .d (.int .i64 n)]
set_option maxRecDepth 4000 in
set_option maxHeartbeats 1000000 in
theorem In_c (T : Tbl) (n lo hi : Int) : PC Tryd.prog T 63 [.d (.int .i64 n), .d (.int .i64 lo), .d (.int .i64 hi)] (.d (.bool (decide (lo ≤ n) && decide (n ≤ hi)))) := by
  refine ⟨Tryd.call63, PCall.enterS Tryd.func63 rfl Tryd.ntmps63 rfl fun hb => ?_⟩
  simp only [go_sem, Tryd.results63]
  refine AWp.rs fun K1 hK1 => ?_
  try simp only [go_sem]
  refine hK1 _ _ ?_
  try clear hK1 K1
  refine AWp.rs fun K2 hK2 => ?_
  try simp only [go_sem]
  refine hK2 _ _ ?_
  try clear hK2 K2
  refine AWp.mask [false, false, false, true] rfl ?_
  simp only [go_sem]
  refine AWp.ret ?_
  try simp only [go_sem]
  try simp [LeA, LeD]
set_option maxRecDepth 4000 in
set_option maxHeartbeats 1000000 in
theorem pblock_s (T : Tbl) (nn : Nat) (hnn : nn ≤ 100000) (ihc : ∀ m, m ≤ nn → ∀ (b : Nat) (l : List Tk) (i d : Nat) (F : List (Nat × Ob)) (L : List Nat), l.length ≤ 400 → i ≤ l.length → d ≤ 7 → cmdR m l i d ≠ .oof → AC Tryd.prog T 44 [.ptr b 3 0 0, .d (.int .i64 (i : Nat)), .d (.int .i64 (d : Nat))] ⟨pob b l 0 0 :: F, L⟩ (RE (500 + m) b F L l cA (cmdR m l i d))) (b : Nat) (l : List Tk) (i d : Nat) (F : List (Nat × Ob)) (L : List Nat) (hl : l.length ≤ 400) (hi : i ≤ l.length) (hd7 : d ≤ 7) (hno : blockR (nn + 1) l i d ≠ .oof) : AC Tryd.prog T 137 [.ptr b 3 0 0, .d (.int .i64 (i : Nat)), .d (.int .i64 (d : Nat))] (⟨pob b l 0 0 :: F, L⟩) (RE (500 + (nn + 1)) b F L l csA (blockR (nn + 1) l i d)) := by
  refine ⟨Tryd.call137, ACalls.enterS Tryd.func137 rfl Tryd.ntmps137 rfl fun hb => ?_⟩
  simp only [go_sem, Tryd.results137]
  refine AWp.rs fun K1 hK1 => ?_
  try simp only [go_sem]
  refine hK1 _ _ ?_
  try clear hK1 K1
  refine AWp.rs fun K2 hK2 => ?_
  try simp only [go_sem]
  refine hK2 _ _ ?_
  try clear hK2 K2
  refine AWp.rs fun K3 hK3 => ?_
  try simp only [go_sem]
  refine DW.acp [b] [] rfl rfl rfl rfl (by (try simp only [go_sem, pob]); rfl) rfl (pmark_c T b l i _ _ [123] (by omega)) ?_
  rintro _ _ ⟨am, nm, fm, em, rfl, rfl, ubm, rm⟩
  try simp only [go_sem, pob, nA]
  refine hK3 _ _ ?_
  try clear hK3 K3
  refine AWp.mask [true, true, true, false, false, true] rfl ?_
  simp only [go_sem]
  refine AWp.seq fun K4 hK4 => ?_
  refine AWp.block ?_
  refine AWp.ownNilS 8 12 rfl rfl (by decide) fun w0 fw0 => ?_
  try simp only [freshT] at fw0
  simp only [go_sem]
  refine AWp.loopS [true, false, true] [false, true, false, true] (fun n lc hc => ∃ (v m w : Nat) (f e : Int) (acc : List Cmd), n = (if e = 0 then m + 1 else 0) ∧ EqS lc [(1, .d (.int .i64 (v : Nat))), (8, .own w 12 (acc.map cmdD))] ∧ EqS hc (⟨pob b l f e :: F, w :: L⟩) ∧ (v ≤ 500 + nn) ∧ (m ≤ nn) ∧ (acc.length ≤ 402) ∧ (freshT w L) ∧ (e = 0 → f = 0 ∧ v ≤ l.length ∧ acc.length ≤ v ∧ blockR (nn + 1) l i d = cmdsR m l v d acc) ∧ (¬ e = 0 → ∀ y q, RR l (blockR (nn + 1) l i d) y q f e)) rfl ?_ ?_
  · refine ⟨_, nm, nn, w0, fm, em, [], rfl, ?_, ?_, ?_, ?_, ?_, ?_, ?_, ?_⟩
    · (try simp only [go_sem]) <;> first | exact ⟨rfl⟩ | (constructor; simp; done)
    · (try simp only [go_sem, pob]) <;> first | exact ⟨rfl⟩ | (constructor; simp; done)
    all_goals (first | omega | (simp; done) | exact fw0 | (intro h; obtain ⟨q1, q2⟩ := rm.ok0 (mustR_oof _ _ _) h; obtain ⟨q3, q4⟩ := mustR_ok q1; have q5 := isT_lt q3; exact ⟨q2, by omega, by simp, by rw [bl_e, q1, Rd.bind_ok]⟩) | (intro h y q; rw [bl_e]; exact rm.thru (mustR_oof _ _ _) h _ _))
  · rintro _ _ _ ⟨v, m, w, f, e, acc, rfl, ⟨rfl⟩, ⟨rfl⟩, g1, g2, g3, g4, g5, g6⟩
    simp only [go_sem]
    refine AWp.seq fun K5 hK5 => ?_
    by_cases he : e = 0
    · skip
      subst he
      obtain ⟨rfl, o2, o3, o4⟩ := g5 rfl
      obtain ⟨m, rfl⟩ : ∃ m2, m = m2 + 1 := by cases m with | zero => exact absurd (by rw [o4, cmdsR]) hno | succ m => exact ⟨m, rfl⟩
      refine AWp.rsG 8 fun K6 hK6 => ?_
      simp only [List.take_succ_cons, List.take_zero, List.drop_succ_cons, List.drop_zero]
      try simp only [go_sem, Bool.false_eq_true, if_false, eq_self, if_true]
      refine LV.gcall rfl rfl (by first | rfl | (simp only [go_sem, pob, tcast, nA, tA, txA, tsA, tstA, cA, csA, cmdA, Int.toNat_natCast, fw0, g4, Bool.false_eq_true, if_false, eq_self, if_true]; done) | (simp only [go_sem, pob, tcast, nA, tA, txA, tsA, tstA, cA, csA, cmdA, Int.toNat_natCast, fw0, g4, Bool.false_eq_true, if_false, eq_self, if_true]; rfl)) rfl rfl (by rfl) (LeH.refl _) (by first | rfl | (simp only [go_sem, pob, tcast, nA, tA, txA, tsA, tstA, cA, csA, cmdA, Int.toNat_natCast, fw0, g4, Bool.false_eq_true, if_false, eq_self, if_true]; done) | (simp only [go_sem, pob, tcast, nA, tA, txA, tsA, tstA, cA, csA, cmdA, Int.toNat_natCast, fw0, g4, Bool.false_eq_true, if_false, eq_self, if_true]; rfl)) (pisMark_c T b l (v) _ _ _ _ [125]) ?_
      rintro _ _ ⟨rfl, rfl⟩
      refine LV.leH (LeH.refl _) (LV.lvc ?_)
      try simp only [go_sem, pob, if_false, eq_self, if_true]
      refine hK6 _ _ ?_
      try clear hK6 K6
      refine AWp.mask [true, true, true, true, false, false, false, false, false, false, false, false, false, false, true] rfl ?_
      simp only [go_sem]
      refine AWp.cond _ rfl (fun hc0 => ?_) (fun hc0 => ?_)
      · skip
        try simp only [decide_eq_true_eq, Bool.not_eq_true', Bool.and_eq_true] at hc0
        have him : isT l v 5 [125] = false := by simpa using hc0
        have hno2 : cmdR m l v d ≠ .oof := by have h9 := hno; rw [o4, cs_f him] at h9; exact Rd.bind_no h9
        refine AWp.skip ?_
        refine thenQ_n ?_
        refine hK5 _ _ ?_
        try clear hK5 K5
        refine AWp.block ?_
        refine AWp.rs fun K7 hK7 => ?_
        try simp only [go_sem, if_false, eq_self, if_true]
        refine DW.acp [b] [] rfl rfl rfl rfl (by (try simp only [go_sem, pob, eq_self, if_true]); rfl) rfl (ihc m (by omega) b l v d _ _ hl o2 hd7 hno2) ?_
        rintro _ _ ⟨ax, nx, fx, ex, rfl, rfl, ubx, rx⟩
        try simp only [go_sem, pob, tstA, cA, cmdA, if_false, eq_self, if_true]
        intro b9
        first | intro fb9 | have fb9 := True.intro
        try simp only [freshL] at fb9
        refine hK7 _ _ ?_
        try clear hK7 K7
        refine AWp.mask [true, false, true, true, true, true] rfl ?_
        simp only [go_sem]
        refine AWp.rs fun K8 hK8 => ?_
        try simp only [go_sem, Bool.false_eq_true, if_false, eq_self, if_true, fb9]
        refine DW.app rfl rfl rfl rfl (show slI Tryd.prog 43 = some (91, 12, 192) by simp only [go_sem]) rfl rfl (by simp only [go_sem, eq_self]) (by first | exact .inl rfl | exact .inr rfl) (by (try simp only [go_sem]); (try simp only [List.length_map, List.length_append, List.length_cons, List.length_nil]); first | done | omega) (by (try simp only [go_sem]); (try simp only [List.length_map, List.length_append, List.length_cons, List.length_nil]); first | done | omega) fun t1 ft1 => ?_
        try simp only [freshT] at ft1
        try simp only [go_sem, if_false, eq_self, if_true]
        refine hK8 _ _ ?_
        try clear hK8 K8
        refine AWp.mask [true, true, true, false, true] rfl ?_
        simp only [go_sem]
        refine AWp.rk fun K9 hK9 => ?_
        try simp only [go_sem, if_false, eq_self, if_true]
        refine hK9 _ _ ?_
        try clear hK9 K9
        refine blkQ_n (thenQ_n ?_)
        refine EndS.mk [true, false, true] [false, true, false, true] [b9] [] [b] [t1] rfl ?_ ?_
        · (try simp only [go_sem, eq_self]) <;> try rfl
        refine .e ⟨_, ?_, nx, m, t1, fx, ex, (acc ++ [ax]), rfl, ?_, ?_, ?_, ?_, ?_, ?_, ?_, ?_⟩
        · first | omega | (simp; omega) | (split <;> omega)
        · (try simp only [go_sem]) <;> first | exact ⟨rfl⟩ | (constructor; simp [cmdD, tstD]; done)
        · (try simp only [go_sem, Bool.false_eq_true, if_false, eq_self, if_true, fb9]) <;> first | exact ⟨rfl⟩ | (constructor; simp; done)
        · omega
        · omega
        · simp; omega
        · first | exact ft1 | exact ft1.2
        · intro h; obtain ⟨q1, q2⟩ := rx.ok0 hno2 h; have lx := (cmd_le m).1 _ _ _ _ _ q1; exact ⟨q2, by omega, by simp; omega, by rw [o4, cs_f him, q1, Rd.bind_ok]⟩
        · intro h y q; rw [o4, cs_f him]; exact rx.thru hno2 h _ _
      · skip
        try simp only [decide_eq_false_iff_not, Bool.not_eq_false', Bool.and_eq_false_iff] at hc0
        have him : isT l v 5 [125] = true := by simpa using hc0
        refine AWp.exit ?_
        refine thenQ_e (thenQ_e (blkQ_e (thenQ_n ?_)))
        refine hK4 _ _ ?_
        try clear hK4 K4
        refine AWp.rs fun K10 hK10 => ?_
        try simp only [go_sem, tcast, if_false, eq_self, if_true]
        (repeat (with_reducible refine And.intro ?_ ?_; omega))
        refine hK10 _ _ ?_
        try clear hK10 K10
        refine AWp.mask [false, false, false, true, true] rfl ?_
        simp only [go_sem]
        refine AWp.ret ?_
        apply endW_r [] [w] [b] [] (by (try simp only [go_sem, if_false, eq_self, if_true]); rfl)
        · refine ⟨acc, (v + 1), 0, 0, rfl, by first | rfl | (simp only [go_sem, pob, eq_self, if_true]; done) | (simp only [go_sem, pob, tcast, nA, tA, txA, tsA, tstA, cA, csA, cmdA, Int.toNat_natCast, fw0, g4, Bool.false_eq_true, if_false, eq_self, if_true]; rfl), by omega, ?_⟩
          rw [o4, cs_t him]
          exact RR.ok_ _ _
        · simp [LeA, LeL, LeD, csA]
    · skip
      refine AWp.rs fun K6 hK6 => ?_
      try simp only [go_sem, he, decide_false]
      refine DW.skipc rfl rfl ?_
      try simp only [go_sem]
      refine hK6 _ _ ?_
      try clear hK6 K6
      refine AWp.mask [true, true, true, true, false, false, false, false, false, false, false, false, false, false, true] rfl ?_
      simp only [go_sem]
      refine AWp.cond _ rfl (fun hc0 => ?_) (fun hc0 => ?_)
      · skip
        exact absurd hc0 (by simp)
      · skip
        try simp only [] at hc0
        refine AWp.exit ?_
        refine thenQ_e (thenQ_e (blkQ_e (thenQ_n ?_)))
        refine hK4 _ _ ?_
        try clear hK4 K4
        refine AWp.rs fun K11 hK11 => ?_
        try simp only [go_sem, tcast]
        (repeat (with_reducible refine And.intro ?_ ?_; omega))
        refine hK11 _ _ ?_
        try clear hK11 K11
        refine AWp.mask [false, false, false, true, true] rfl ?_
        simp only [go_sem]
        refine AWp.ret ?_
        apply endW_r [] [w] [b] [] (by (try simp only [go_sem]); rfl)
        · refine ⟨acc, (v + 1), f, e, rfl, by first | rfl | (simp only [go_sem, pob]; done) | (simp only [go_sem, pob, tcast, nA, tA, txA, tsA, tstA, cA, csA, cmdA, Int.toNat_natCast, fw0, g4, he, decide_false]; rfl), by omega, ?_⟩
          exact g6 he _ _
        · simp [LeA, LeL, LeD, csA]
set_option maxRecDepth 4000 in
set_option maxHeartbeats 1000000 in
theorem pbranch_s (T : Tbl) (nn : Nat) (hnn : nn ≤ 100000) (ihb : ∀ m, m ≤ nn → ∀ (b : Nat) (l : List Tk) (i d : Nat) (F : List (Nat × Ob)) (L : List Nat), l.length ≤ 400 → i ≤ l.length → d ≤ 7 → blockR m l i d ≠ .oof → AC Tryd.prog T 137 [.ptr b 3 0 0, .d (.int .i64 (i : Nat)), .d (.int .i64 (d : Nat))] ⟨pob b l 0 0 :: F, L⟩ (RE (500 + m) b F L l csA (blockR m l i d))) (ihr : ∀ m, m ≤ nn → ∀ (b : Nat) (l : List Tk) (i d : Nat) (F : List (Nat × Ob)) (L : List Nat), l.length ≤ 400 → i ≤ l.length → d ≤ 6 → branchR m l i d ≠ .oof → AC Tryd.prog T 90 [.ptr b 3 0 0, .d (.int .i64 (i : Nat)), .d (.int .i64 (d : Nat))] ⟨pob b l 0 0 :: F, L⟩ (RE (500 + m) b F L l cA (branchR m l i d))) (b : Nat) (l : List Tk) (i d : Nat) (F : List (Nat × Ob)) (L : List Nat) (hl : l.length ≤ 400) (hi : i ≤ l.length) (hd7 : d ≤ 6) (hno : branchR (nn + 1) l i d ≠ .oof) : AC Tryd.prog T 90 [.ptr b 3 0 0, .d (.int .i64 (i : Nat)), .d (.int .i64 (d : Nat))] (⟨pob b l 0 0 :: F, L⟩) (RE (500 + (nn + 1)) b F L l cA (branchR (nn + 1) l i d)) := by
  refine ⟨Tryd.call90, ACalls.enterS Tryd.func90 rfl Tryd.ntmps90 rfl fun hb => ?_⟩
  simp only [go_sem, Tryd.results90]
  refine AWp.rs fun K1 hK1 => ?_
  try simp only [go_sem]
  intro b6
  first | intro fb6 | have fb6 := True.intro
  try simp only [freshL] at fb6
  refine hK1 _ _ ?_
  try clear hK1 K1
  refine AWp.rs fun K2 hK2 => ?_
  try simp only [go_sem]
  intro b8
  first | intro fb8 | have fb8 := True.intro
  try simp only [freshL] at fb8
  refine hK2 _ _ ?_
  try clear hK2 K2
  refine AWp.rs fun K3 hK3 => ?_
  try simp only [go_sem]
  have hno2 : testR nn l i 1 ≠ .oof := by have h9 := hno; rw [br_e] at h9; exact Rd.bind_no h9
  refine DW.acp [b] [] rfl rfl rfl rfl (by (try simp only [go_sem, pob, fb6, fb8]); rfl) rfl (ptest_c T nn b l i 1 _ _ hl hi (by decide) hno2) ?_
  rintro _ _ ⟨aq, nq, fq, eq, rfl, rfl, ubq, rq⟩
  try simp only [go_sem, pob, tsA, tstA, fb8]
  refine hK3 _ _ ?_
  try clear hK3 K3
  refine AWp.mask [true, true, true, true, false, true] rfl ?_
  simp only [go_sem]
  refine AWp.seq fun K4 hK4 => ?_
  refine AWp.rs fun K5 hK5 => ?_
  try simp only [go_sem, fb6, fb8]
  refine hK5 _ _ ?_
  try clear hK5 K5
  refine AWp.mask [true, true, true, true, true, false, false, false, false, true] rfl ?_
  simp only [go_sem]
  refine AWp.cond _ rfl (fun hc0 => ?_) (fun hc0 => ?_)
  · skip
    try simp only [decide_eq_true_eq] at hc0
    obtain ⟨p1, p2⟩ := rq.ok0 hno2 hc0
    subst hc0 p2
    have lq := (test_le nn).1 _ _ _ _ _ p1
    have hno3 : blockR nn l nq (d + 1) ≠ .oof := by have h9 := hno; rw [br_e, p1, Rd.bind_ok] at h9; exact Rd.bind_no h9
    refine AWp.rk fun K6 hK6 => ?_
    try simp only [go_sem, tcast]
    (repeat (with_reducible refine And.intro ?_ ?_; omega))
    refine DW.acp [b] [] rfl rfl rfl rfl (by (try simp only [go_sem, pob, fb6, fb8]); rfl) rfl (ihb nn (Nat.le_refl _) b l nq (d + 1) _ _ hl (by omega) (by omega) hno3) ?_
    rintro _ _ ⟨ax, nx, fx, ex, rfl, rfl, ubx, rx⟩
    try simp only [go_sem, pob, csA, fb8]
    refine hK6 _ _ ?_
    try clear hK6 K6
    refine thenQ_n ?_
    refine hK4 _ _ ?_
    try clear hK4 K4
    refine AWp.mask [true, true, true, true, true] rfl ?_
    simp only [go_sem]
    refine AWp.seq fun K7 hK7 => ?_
    by_cases he : ex = 0
    · skip
      obtain ⟨p3, p4⟩ := rx.ok0 hno3 he
      subst he p4
      have lx := (cmd_le nn).2.1 _ _ _ _ _ p3
      refine AWp.rsG 8 fun K8 hK8 => ?_
      simp only [List.take_succ_cons, List.take_zero, List.drop_succ_cons, List.drop_zero]
      try simp only [go_sem, fb6, fb8, Bool.false_eq_true, if_false, eq_self, if_true]
      refine LV.gcall rfl rfl (by first | rfl | (simp only [go_sem, pob, tcast, nA, tA, txA, tsA, tstA, cA, csA, cmdA, Int.toNat_natCast, fb6, fb8, Bool.false_eq_true, if_false, eq_self, if_true]; done) | (simp only [go_sem, pob, tcast, nA, tA, txA, tsA, tstA, cA, csA, cmdA, Int.toNat_natCast, fb6, fb8, Bool.false_eq_true, if_false, eq_self, if_true]; rfl)) rfl rfl (by rfl) (LeH.refl _) (by first | rfl | (simp only [go_sem, pob, tcast, nA, tA, txA, tsA, tstA, cA, csA, cmdA, Int.toNat_natCast, fb6, fb8, Bool.false_eq_true, if_false, eq_self, if_true]; done) | (simp only [go_sem, pob, tcast, nA, tA, txA, tsA, tstA, cA, csA, cmdA, Int.toNat_natCast, fb6, fb8, Bool.false_eq_true, if_false, eq_self, if_true]; rfl)) (pisWord_c T b l (nx) _ _ _ _ _) ?_
      rintro _ _ ⟨rfl, rfl⟩
      refine LV.leH (LeH.refl _) (LV.lvc ?_)
      try simp only [go_sem, pob, if_false, eq_self, if_true]
      refine hK8 _ _ ?_
      try clear hK8 K8
      refine AWp.mask [true, true, true, true, true, false, false, false, false, false, false, false, false, false, true] rfl ?_
      simp only [go_sem]
      refine AWp.cond _ rfl (fun hc1 => ?_) (fun hc1 => ?_)
      · skip
        try simp only [decide_eq_true_eq, Bool.and_eq_true] at hc1
        have him : isT l nx 1 [101, 108, 115, 105, 102] = true := by simpa using hc1
        have jlt := isT_lt him
        have hno4 : branchR nn l (nx + 1) d ≠ .oof := by have h9 := hno; rw [br_e, p1, Rd.bind_ok, p3, Rd.bind_ok, if_pos (show isT l nx 1 elsifT = true from him)] at h9; exact Rd.bind_no h9
        refine AWp.rs fun K9 hK9 => ?_
        try simp only [go_sem, tcast, if_false, eq_self, if_true]
        (repeat (with_reducible refine And.intro ?_ ?_; omega))
        refine DW.acp [b] [] rfl rfl rfl rfl (by (try simp only [go_sem, pob, fb6, fb8, Bool.false_eq_true, if_false, eq_self, if_true]); rfl) rfl (ihr nn (Nat.le_refl _) b l (nx + 1) d _ _ hl (by omega) hd7 hno4) ?_
        rintro _ _ ⟨ay, ny, fy, ey, rfl, rfl, uby, ry⟩
        try simp only [go_sem, pob, tstA, cA, cmdA, if_false, eq_self, if_true]
        intro b9
        first | intro fb9 | have fb9 := True.intro
        try simp only [freshL] at fb9
        refine hK9 _ _ ?_
        try clear hK9 K9
        refine AWp.mask [false, false, false, true, true, true, true] rfl ?_
        simp only [go_sem]
        refine AWp.ownNilH b8 0 11 12 (by (try simp only [go_sem, fb8, Bool.false_eq_true, if_false, eq_self, if_true, fb9]); rfl) rfl rfl (by decide) fun t9 ft9 => ?_
        try simp only [freshT] at ft9
        simp only [go_sem, fb8, Bool.false_eq_true, if_false, eq_self, if_true, fb9]
        refine AWp.rs fun K10 hK10 => ?_
        try simp only [go_sem, fb8, Bool.false_eq_true, if_false, eq_self, if_true, fb9]
        refine DW.app rfl rfl rfl rfl (show slI Tryd.prog 43 = some (91, 12, 192) by simp only [go_sem]) rfl rfl (by simp only [go_sem, eq_self]) (by first | exact .inl rfl | exact .inr rfl) (by (try simp only [go_sem]); (try simp only [List.length_map, List.length_append, List.length_cons, List.length_nil]); first | done | omega) (by (try simp only [go_sem]); (try simp only [List.length_map, List.length_append, List.length_cons, List.length_nil]); first | done | omega) fun t1 ft1 => ?_
        try simp only [freshT] at ft1
        try simp only [go_sem, fb8, Bool.false_eq_true, if_false, eq_self, if_true, fb9]
        refine hK10 _ _ ?_
        try clear hK10 K10
        refine AWp.mask [true, true, false, true] rfl ?_
        simp only [go_sem]
        refine AWp.rs fun K11 hK11 => ?_
        try simp only [go_sem, fb6, fb8, Bool.false_eq_true, if_false, eq_self, if_true, fb9]
        refine hK11 _ _ ?_
        try clear hK11 K11
        refine AWp.mask [true, true] rfl ?_
        simp only [go_sem]
        refine AWp.ret ?_
        try simp only [thenQ]
        apply endW_r [b6, b8, b9] [t1] [b] [] (by (try simp only [go_sem, fb6, fb8, Bool.false_eq_true, if_false, eq_self, if_true, fb9]); rfl)
        · refine ⟨(.mk 2 [] aq ax [ay]), ny, fy, ey, rfl, by first | rfl | (simp only [go_sem, pob, fb6, fb8, Bool.false_eq_true, if_false, eq_self, if_true, fb9]; done) | (simp only [go_sem, pob, tcast, nA, tA, txA, tsA, tstA, cA, csA, cmdA, Int.toNat_natCast, fb6, fb8, Bool.false_eq_true, if_false, eq_self, if_true, fb9, ft9, ft1]; rfl), by omega, ?_⟩
          rw [br_e, p1, Rd.bind_ok, p3, Rd.bind_ok, if_pos (show isT l nx 1 elsifT = true from him)]
          by_cases h9 : ey = 0
          · refine ry.next hno4 h9 ?_
            obtain ⟨_, rfl⟩ := ry.ok0 hno4 h9
            subst h9
            exact RR.ok_ _ _
          · exact ry.thru hno4 h9 _ _
        · simp [LeA, LeL, LeD, cmdA, tstA, tstD, Tst.kind, Tst.mat, Tst.part, Tst.names, Tst.keys, Tst.over, Tst.limit, Cmd.kind, Cmd.texts, Cmd.test, thnD, elsD, cmdsL, cmdsL_eq, cA]
      · skip
        try simp only [decide_eq_false_iff_not, Bool.and_eq_false_iff] at hc1
        have hn1 : isT l nx 1 [101, 108, 115, 105, 102] = false := by simpa using hc1
        refine AWp.skip ?_
        refine thenQ_n ?_
        refine hK7 _ _ ?_
        try clear hK7 K7
        refine AWp.seq fun K12 hK12 => ?_
        refine AWp.rsG 8 fun K13 hK13 => ?_
        simp only [List.take_succ_cons, List.take_zero, List.drop_succ_cons, List.drop_zero]
        try simp only [go_sem, fb6, fb8, Bool.false_eq_true, if_false, eq_self, if_true]
        refine LV.gcall rfl rfl (by first | rfl | (simp only [go_sem, pob, tcast, nA, tA, txA, tsA, tstA, cA, csA, cmdA, Int.toNat_natCast, fb6, fb8, Bool.false_eq_true, if_false, eq_self, if_true]; done) | (simp only [go_sem, pob, tcast, nA, tA, txA, tsA, tstA, cA, csA, cmdA, Int.toNat_natCast, fb6, fb8, Bool.false_eq_true, if_false, eq_self, if_true]; rfl)) rfl rfl (by rfl) (LeH.refl _) (by first | rfl | (simp only [go_sem, pob, tcast, nA, tA, txA, tsA, tstA, cA, csA, cmdA, Int.toNat_natCast, fb6, fb8, Bool.false_eq_true, if_false, eq_self, if_true]; done) | (simp only [go_sem, pob, tcast, nA, tA, txA, tsA, tstA, cA, csA, cmdA, Int.toNat_natCast, fb6, fb8, Bool.false_eq_true, if_false, eq_self, if_true]; rfl)) (pisWord_c T b l (nx) _ _ _ _ _) ?_
        rintro _ _ ⟨rfl, rfl⟩
        refine LV.leH (LeH.refl _) (LV.lvc ?_)
        try simp only [go_sem, pob, if_false, eq_self, if_true]
        refine hK13 _ _ ?_
        try clear hK13 K13
        refine AWp.mask [true, true, true, true, true, false, false, false, false, false, false, false, false, false, false, true] rfl ?_
        simp only [go_sem]
        refine AWp.cond _ rfl (fun hc2 => ?_) (fun hc2 => ?_)
        · skip
          try simp only [decide_eq_true_eq, Bool.and_eq_true] at hc2
          have him : isT l nx 1 [101, 108, 115, 101] = true := by simpa using hc2
          have jlt := isT_lt him
          have hno5 : blockR nn l (nx + 1) (d + 1) ≠ .oof := by have h9 := hno; rw [br_e, p1, Rd.bind_ok, p3, Rd.bind_ok, if_neg (show ¬ isT l nx 1 elsifT = true from fun h8 => by rw [show isT l nx 1 elsifT = false from hn1] at h8; cases h8), if_pos (show isT l nx 1 elseT = true from him)] at h9; exact Rd.bind_no h9
          refine AWp.rk fun K14 hK14 => ?_
          try simp only [go_sem, tcast, if_false, eq_self, if_true]
          (repeat (with_reducible refine And.intro ?_ ?_; omega))
          refine DW.acp [b] [] rfl rfl rfl rfl (by (try simp only [go_sem, pob, fb6, fb8, Bool.false_eq_true, if_false, eq_self, if_true]); rfl) rfl (ihb nn (Nat.le_refl _) b l (nx + 1) (d + 1) _ _ hl (by omega) (by omega) hno5) ?_
          rintro _ _ ⟨az, nz, fz, ez, rfl, rfl, ubz, rz⟩
          try simp only [go_sem, pob, csA, fb8, Bool.false_eq_true, if_false, eq_self, if_true]
          refine hK14 _ _ ?_
          try clear hK14 K14
          refine thenQ_n ?_
          refine hK12 _ _ ?_
          try clear hK12 K12
          refine AWp.mask [false, true, false, true, true] rfl ?_
          simp only [go_sem]
          refine AWp.rs fun K15 hK15 => ?_
          try simp only [go_sem, fb6, fb8, Bool.false_eq_true, if_false, eq_self, if_true]
          refine hK15 _ _ ?_
          try clear hK15 K15
          refine AWp.mask [false, true, true] rfl ?_
          simp only [go_sem]
          refine AWp.ret ?_
          apply endW_r [b6, b8] [] [b] [] (by (try simp only [go_sem, fb6, fb8, Bool.false_eq_true, if_false, eq_self, if_true]); rfl)
          · refine ⟨(.mk 2 [] aq ax az), nz, fz, ez, rfl, by first | rfl | (simp only [go_sem, pob, fb6, fb8, Bool.false_eq_true, if_false, eq_self, if_true]; done) | (simp only [go_sem, pob, tcast, nA, tA, txA, tsA, tstA, cA, csA, cmdA, Int.toNat_natCast, fb6, fb8, Bool.false_eq_true, if_false, eq_self, if_true]; rfl), by omega, ?_⟩
            rw [br_e, p1, Rd.bind_ok, p3, Rd.bind_ok, if_neg (show ¬ isT l nx 1 elsifT = true from fun h8 => by rw [show isT l nx 1 elsifT = false from hn1] at h8; cases h8), if_pos (show isT l nx 1 elseT = true from him)]
            by_cases h9 : ez = 0
            · refine rz.next hno5 h9 ?_
              obtain ⟨_, rfl⟩ := rz.ok0 hno5 h9
              subst h9
              exact RR.ok_ _ _
            · exact rz.thru hno5 h9 _ _
          · simp [LeA, LeL, LeD, cmdA, tstA, Tst.kind, Tst.mat, Tst.part, Tst.names, Tst.keys, Tst.over, Tst.limit, Cmd.kind, Cmd.texts, Cmd.test, thnD, elsD, cmdsL_eq, cA]
        · skip
          try simp only [decide_eq_false_iff_not, Bool.and_eq_false_iff] at hc2
          have hn2 : isT l nx 1 [101, 108, 115, 101] = false := by simpa using hc2
          refine AWp.skip ?_
          refine thenQ_n ?_
          refine hK12 _ _ ?_
          try clear hK12 K12
          refine AWp.rs fun K16 hK16 => ?_
          try simp only [go_sem, fb6, fb8, Bool.false_eq_true, if_false, eq_self, if_true]
          refine hK16 _ _ ?_
          try clear hK16 K16
          refine AWp.mask [false, false, false, true, true] rfl ?_
          simp only [go_sem]
          refine AWp.ret ?_
          apply endW_r [b6, b8] [] [b] [] (by (try simp only [go_sem, fb6, fb8, Bool.false_eq_true, if_false, eq_self, if_true]); rfl)
          · refine ⟨(.mk 2 [] aq ax []), nx, 0, 0, rfl, by first | rfl | (simp only [go_sem, pob, fb6, fb8, Bool.false_eq_true, if_false, eq_self, if_true]; done) | (simp only [go_sem, pob, tcast, nA, tA, txA, tsA, tstA, cA, csA, cmdA, Int.toNat_natCast, fb6, fb8, Bool.false_eq_true, if_false, eq_self, if_true]; rfl), by omega, ?_⟩
            rw [br_e, p1, Rd.bind_ok, p3, Rd.bind_ok, if_neg (show ¬ isT l nx 1 elsifT = true from fun h8 => by rw [show isT l nx 1 elsifT = false from hn1] at h8; cases h8), if_neg (show ¬ isT l nx 1 elseT = true from fun h8 => by rw [show isT l nx 1 elseT = false from hn2] at h8; cases h8)]
            exact RR.ok_ _ _
          · simp [LeA, LeL, LeD, cmdA, tstA, Tst.kind, Tst.mat, Tst.part, Tst.names, Tst.keys, Tst.over, Tst.limit, Cmd.kind, Cmd.texts, Cmd.test, thnD, elsD, cmdsL, cmdsL_eq, cA]
    · skip
      refine AWp.rs fun K8 hK8 => ?_
      try simp only [go_sem, fb6, fb8, he, decide_false]
      refine DW.skipc rfl rfl ?_
      try simp only [go_sem]
      refine hK8 _ _ ?_
      try clear hK8 K8
      refine AWp.mask [true, true, true, true, true, false, false, false, false, false, false, false, false, false, true] rfl ?_
      simp only [go_sem]
      refine AWp.cond _ rfl (fun hc1 => ?_) (fun hc1 => ?_)
      · skip
        exact absurd hc1 (by simp)
      · skip
        try simp only [] at hc1
        refine AWp.skip ?_
        refine thenQ_n ?_
        refine hK7 _ _ ?_
        try clear hK7 K7
        refine AWp.seq fun K17 hK17 => ?_
        refine AWp.rs fun K18 hK18 => ?_
        try simp only [go_sem, fb6, fb8, he, decide_false]
        refine DW.skipc rfl rfl ?_
        try simp only [go_sem]
        refine hK18 _ _ ?_
        try clear hK18 K18
        refine AWp.mask [true, true, true, true, true, false, false, false, false, false, false, false, false, false, false, true] rfl ?_
        simp only [go_sem]
        refine AWp.cond _ rfl (fun hc2 => ?_) (fun hc2 => ?_)
        · skip
          exact absurd hc2 (by simp)
        · skip
          try simp only [] at hc2
          refine AWp.skip ?_
          refine thenQ_n ?_
          refine hK17 _ _ ?_
          try clear hK17 K17
          refine AWp.rs fun K19 hK19 => ?_
          try simp only [go_sem, fb6, fb8]
          refine hK19 _ _ ?_
          try clear hK19 K19
          refine AWp.mask [false, false, false, true, true] rfl ?_
          simp only [go_sem]
          refine AWp.ret ?_
          apply endW_r [b6, b8] [] [b] [] (by (try simp only [go_sem, fb6, fb8]); rfl)
          · refine ⟨(.mk 2 [] aq ax []), nx, fx, ex, rfl, by first | rfl | (simp only [go_sem, pob, fb6, fb8]; done) | (simp only [go_sem, pob, tcast, nA, tA, txA, tsA, tstA, cA, csA, cmdA, Int.toNat_natCast, fb6, fb8, he, decide_false]; rfl), by omega, ?_⟩
            rw [br_e, p1, Rd.bind_ok]
            exact rx.thru hno3 he _ _
          · simp [LeA, LeL, LeD, cmdA, tstA, Tst.kind, Tst.mat, Tst.part, Tst.names, Tst.keys, Tst.over, Tst.limit, Cmd.kind, Cmd.texts, Cmd.test, thnD, elsD, cmdsL, cmdsL_eq, cA]
  · skip
    try simp only [decide_eq_false_iff_not] at hc0
    refine AWp.skip ?_
    refine thenQ_n ?_
    refine hK4 _ _ ?_
    try clear hK4 K4
    refine AWp.seq fun K20 hK20 => ?_
    refine AWp.rs fun K21 hK21 => ?_
    try simp only [go_sem, fb6, fb8, hc0, decide_false]
    refine DW.skipc rfl rfl ?_
    try simp only [go_sem]
    refine hK21 _ _ ?_
    try clear hK21 K21
    refine AWp.mask [true, true, true, true, true, false, false, false, false, false, false, false, false, false, false, true] rfl ?_
    simp only [go_sem]
    refine AWp.cond _ rfl (fun hc1 => ?_) (fun hc1 => ?_)
    · skip
      exact absurd hc1 (by simp)
    · skip
      try simp only [] at hc1
      refine AWp.skip ?_
      refine thenQ_n ?_
      refine hK20 _ _ ?_
      try clear hK20 K20
      refine AWp.seq fun K22 hK22 => ?_
      refine AWp.rs fun K23 hK23 => ?_
      try simp only [go_sem, fb6, fb8, hc0, decide_false]
      refine DW.skipc rfl rfl ?_
      try simp only [go_sem]
      refine hK23 _ _ ?_
      try clear hK23 K23
      refine AWp.mask [true, true, true, true, true, false, false, false, false, false, false, false, false, false, false, true] rfl ?_
      simp only [go_sem]
      refine AWp.cond _ rfl (fun hc2 => ?_) (fun hc2 => ?_)
      · skip
        exact absurd hc2 (by simp)
      · skip
        try simp only [] at hc2
        refine AWp.skip ?_
        refine thenQ_n ?_
        refine hK22 _ _ ?_
        try clear hK22 K22
        refine AWp.rs fun K24 hK24 => ?_
        try simp only [go_sem, fb6, fb8]
        refine hK24 _ _ ?_
        try clear hK24 K24
        refine AWp.mask [false, false, false, true, true] rfl ?_
        simp only [go_sem]
        refine AWp.ret ?_
        apply endW_r [b6, b8] [] [b] [] (by (try simp only [go_sem, fb6, fb8]); rfl)
        · refine ⟨(.mk 2 [] aq [] []), nq, fq, eq, rfl, by first | rfl | (simp only [go_sem, pob, fb6, fb8]; done) | (simp only [go_sem, pob, tcast, nA, tA, txA, tsA, tstA, cA, csA, cmdA, Int.toNat_natCast, fb6, fb8, hc0, decide_false]; rfl), by omega, ?_⟩
          rw [br_e]
          exact rq.thru hno2 hc0 _ _
        · simp [LeA, LeL, LeD, cmdA, tstA, Tst.kind, Tst.mat, Tst.part, Tst.names, Tst.keys, Tst.over, Tst.limit, Cmd.kind, Cmd.texts, Cmd.test, thnD, elsD, cmdsL, cA]
end Go.Proofs.YthpkjmbdjnelfaaDoor

namespace Go.Proofs.YthpkjmbdjnelfaaDoor
set_option linter.unusedSimpArgs false
set_option linter.unusedVariables false
set_option maxRecDepth 4000 in
set_option maxHeartbeats 1000000 in
theorem pcommand_s (T : Tbl) (nn : Nat) (hnn : nn ≤ 100000) (ihr : ∀ m, m ≤ nn → ∀ (b : Nat) (l : List Tk) (i d : Nat) (F : List (Nat × Ob)) (L : List Nat), l.length ≤ 400 → i ≤ l.length → d ≤ 6 → branchR m l i d ≠ .oof → AC Tryd.prog T 90 [.ptr b 3 0 0, .d (.int .i64 (i : Nat)), .d (.int .i64 (d : Nat))] ⟨pob b l 0 0 :: F, L⟩ (RE (500 + m) b F L l cA (branchR m l i d))) (b : Nat) (l : List Tk) (i d : Nat) (F : List (Nat × Ob)) (L : List Nat) (hl : l.length ≤ 400) (hi : i ≤ l.length) (hd7 : d ≤ 7) (hno : cmdR (nn + 1) l i d ≠ .oof) : AC Tryd.prog T 44 [.ptr b 3 0 0, .d (.int .i64 (i : Nat)), .d (.int .i64 (d : Nat))] (⟨pob b l 0 0 :: F, L⟩) (RE (500 + (nn + 1)) b F L l cA (cmdR (nn + 1) l i d)) := by
  refine ⟨Tryd.call44, ACalls.enterS Tryd.func44 rfl Tryd.ntmps44 rfl fun hb => ?_⟩
  simp only [go_sem, Tryd.results44]
  refine AWp.rs fun K1 hK1 => ?_
  try simp only [go_sem]
  intro b6
  first | intro fb6 | have fb6 := True.intro
  try simp only [freshL] at fb6
  refine hK1 _ _ ?_
  try clear hK1 K1
  refine AWp.seq fun K2 hK2 => ?_
  refine AWp.rs fun K3 hK3 => ?_
  try simp only [go_sem, fb6]
  refine hK3 _ _ ?_
  try clear hK3 K3
  refine AWp.mask [true, true, true, true, false, false, false, false, false, false, false, false, false, false, false, true] rfl ?_
  simp only [go_sem]
  refine AWp.cond _ rfl (fun hc0 => ?_) (fun hc0 => ?_)
  · skip
    try simp only [decide_eq_true_eq, Bool.and_eq_true] at hc0
    have hd0 : 6 < d ∧ i < l.length := by omega
    refine AWp.rs fun K4 hK4 => ?_
    try simp only [go_sem]
    refine DW.acp [b] [] rfl rfl rfl rfl (by (try simp only [go_sem, pob, fb6]); rfl) rfl (pstop_c T b l (i) _ _ 1 (by decide)) ?_
    rintro _ _ ⟨rfl, rfl⟩
    try simp only [go_sem, pob, fb6]
    refine hK4 _ _ ?_
    try clear hK4 K4
    refine AWp.mask [false, false, false, true, true] rfl ?_
    simp only [go_sem]
    refine AWp.ret ?_
    try simp only [thenQ]
    apply endW_r [b6] [] [b] [] (by (try simp only [go_sem, fb6]); rfl)
    · refine ⟨(.mk 0 [] tst0 [] []), i, _, _, rfl, by first | rfl | (simp only [go_sem, pob, fb6]; done) | (simp only [go_sem, pob, fb6]; rfl), by omega, ?_⟩
      rw [cd_1 hd0]
      exact RR.er_ _ _ (gv_ne (by decide))
    · simp [LeA, LeL, LeD, cmdA, tstA, kidsD, kidsL_eq, tst0, Tst.kind, Tst.mat, Tst.part, Tst.names, Tst.keys, Tst.over, Tst.limit, Cmd.kind, Cmd.texts, Cmd.test, thnD, elsD, cmdsL, cA]
  · skip
    try simp only [decide_eq_false_iff_not, Bool.and_eq_false_iff, Int.not_lt] at hc0
    have hd0 : ¬ (6 < d ∧ i < l.length) := by omega
    refine AWp.skip ?_
    refine thenQ_n ?_
    refine hK2 _ _ ?_
    try clear hK2 K2
    refine AWp.rs fun K5 hK5 => ?_
    try simp only [go_sem]
    intro b8
    first | intro fb8 | have fb8 := True.intro
    try simp only [freshL] at fb8
    refine hK5 _ _ ?_
    try clear hK5 K5
    refine AWp.seq fun K6 hK6 => ?_
    refine AWp.rs fun K7 hK7 => ?_
    try simp only [go_sem]
    refine hK7 _ _ ?_
    try clear hK7 K7
    refine AWp.block ?_
    refine AWp.mask [true, true, true, true, true, true] rfl ?_
    simp only [go_sem]
    refine AWp.loopS [true, true, true, true, true] [false, false, false, false, false, true] (fun n lc hc => ∃ (q : Nat) (kd : Int), n = 11 - q ∧ EqS lc [(9, .d (.int .i64 (q : Nat)))] ∧ EqS hc (⟨(b8, ⟨12, 1, [[.d (.int .i64 kd), .nils, .d (.int .i64 0), .d (.int .i64 0), .d (.int .i64 0), .nils, .nils, .d (.bool false), .d (.int .i64 0), .nils, .nils, .nils]]⟩) :: (b6, ⟨12, 1, [[.d (.int .i64 0), .nils, .d (.int .i64 0), .d (.int .i64 0), .d (.int .i64 0), .nils, .nils, .d (.bool false), .d (.int .i64 0), .nils, .nils, .nils]]⟩) :: pob b l 0 0 :: F, L⟩) ∧ (1 ≤ q) ∧ (q ≤ 11) ∧ (kd = kdS cmT l i q)) rfl ?_ ?_
    · refine ⟨_, 1, 0, rfl, ?_, ?_, ?_, ?_, ?_⟩
      · (try simp only [go_sem]) <;> first | exact ⟨rfl⟩ | (constructor; simp; done)
      · (try simp only [go_sem, pob]) <;> first | exact ⟨rfl⟩ | (constructor; simp; done)
      all_goals (first | omega | exact (kdS_1 _ _ _).symm)
    · rintro _ _ _ ⟨q, kd, rfl, ⟨rfl⟩, ⟨rfl⟩, h1, h2, h3⟩
      simp only [go_sem]
      refine AWp.seq fun K8 hK8 => ?_
      refine AWp.rs fun K9 hK9 => ?_
      try simp only [go_sem]
      refine hK9 _ _ ?_
      try clear hK9 K9
      refine AWp.cond _ rfl (fun hc1 => ?_) (fun hc1 => ?_)
      · skip
        try simp only [decide_eq_true_eq] at hc1
        refine AWp.skip ?_
        refine thenQ_n ?_
        refine hK8 _ _ ?_
        try clear hK8 K8
        refine AWp.seq fun K10 hK10 => ?_
        refine AWp.block ?_
        refine AWp.rs fun K11 hK11 => ?_
        try simp only [go_sem]
        refine DW.pcr rfl rfl rfl rfl (pcommandWord_c T _ (by omega) (by omega)) rfl rfl ?_
        try simp only [go_sem, Int.toNat_natCast]
        refine DW.acp [b] [] rfl rfl rfl rfl (by (try simp only [go_sem, pob, fb6, fb8]); rfl) rfl (pisWord_c T b l (i) _ _ _ _ _) ?_
        rintro _ _ ⟨rfl, rfl⟩
        try simp only [go_sem, pob]
        refine hK11 _ _ ?_
        try clear hK11 K11
        refine AWp.mask [true, true, true, true, true, true, false, false, false, false, false, false, true] rfl ?_
        simp only [go_sem]
        refine AWp.cond _ rfl (fun hc2 => ?_) (fun hc2 => ?_)
        · skip
          refine AWp.rk fun K12 hK12 => ?_
          try simp only [go_sem, fb8]
          refine hK12 _ _ ?_
          try clear hK12 K12
          refine blkQ_n (thenQ_n ?_)
          refine hK10 _ _ ?_
          try clear hK10 K10
          refine AWp.rk fun K13 hK13 => ?_
          try simp only [go_sem, tcast]
          (repeat (with_reducible refine And.intro ?_ ?_; omega))
          refine hK13 _ _ ?_
          try clear hK13 K13
          refine thenQ_n ?_
          refine EndS.mk [true, true, true, true, true] [false, false, false, false, false, true] [] [] [b8, b6, b] [] rfl ?_ ?_
          · (try simp only [go_sem]) <;> try rfl
          refine .e ⟨_, ?_, (q + 1), (q : Int), rfl, ?_, ?_, ?_, ?_, ?_⟩
          · first | omega | (simp; omega) | (grind)
          · (try simp only [go_sem]) <;> first | exact ⟨rfl⟩ | (constructor; simp; done)
          · (try simp only [go_sem, fb6, fb8]) <;> first | exact ⟨rfl⟩ | (constructor; simp; done)
          · omega
          · omega
          · exact (kdS_t cmT_nd (by omega) (show q < 11 by omega) hc2).symm
        · skip
          refine AWp.skip ?_
          refine blkQ_n (thenQ_n ?_)
          refine hK10 _ _ ?_
          try clear hK10 K10
          refine AWp.rk fun K14 hK14 => ?_
          try simp only [go_sem, tcast]
          (repeat (with_reducible refine And.intro ?_ ?_; omega))
          refine hK14 _ _ ?_
          try clear hK14 K14
          refine thenQ_n ?_
          refine EndS.mk [true, true, true, true, true] [false, false, false, false, false, true] [] [] [b8, b6, b] [] rfl ?_ ?_
          · (try simp only [go_sem]) <;> try rfl
          refine .e ⟨_, ?_, (q + 1), kd, rfl, ?_, ?_, ?_, ?_, ?_⟩
          · first | omega | (simp; omega) | (grind)
          · (try simp only [go_sem]) <;> first | exact ⟨rfl⟩ | (constructor; simp; done)
          · (try simp only [go_sem, fb6, fb8]) <;> first | exact ⟨rfl⟩ | (constructor; simp; done)
          · omega
          · omega
          · exact h3.trans (kdS_f cmT_nd (show q < 11 by omega) (by simpa using hc2)).symm
      · skip
        try simp only [decide_eq_false_iff_not, Int.not_le] at hc1
        obtain rfl : q = 11 := by omega
        refine AWp.exit ?_
        refine thenQ_e (thenQ_e (blkQ_e (thenQ_n ?_)))
        refine hK6 _ _ ?_
        try clear hK6 K6
        refine AWp.seq fun K15 hK15 => ?_
        refine AWp.rs fun K16 hK16 => ?_
        try simp only [go_sem, fb8]
        refine hK16 _ _ ?_
        try clear hK16 K16
        refine AWp.mask [true, true, true, true, true, false, false, false, false, false, true] rfl ?_
        simp only [go_sem]
        refine AWp.cond _ rfl (fun hc3 => ?_) (fun hc3 => ?_)
        · skip
          try simp only [decide_eq_true_eq] at hc3
          have hw : wordR l i cmT = .err i 3 := kdS_er (h3.symm.trans hc3)
          refine AWp.dsN false [1, 2] [0] [3] 4 [5] rfl (by kernel_rfl) rfl fun K17 hK17 => ?_
          try simp only [go_sem]
          refine Exists.intro (fun h' : AH => getO b8 h'.objs = some ⟨12, 1, [[.d (.int .i64 kd), .nils, .d (.int .i64 0), .d (.int .i64 0), .d (.int .i64 0), .nils, .nils, .d (.bool false), .d (.int .i64 0), .nils, .nils, .nils]]⟩) (And.intro (by simp [getO]) ?_)
          try simp only [go_sem]
          refine FRN.ld rfl rfl (fun h' m1 => (by first | rfl | (simp only [go_sem, m1]; first | done | rfl | exact ⟨by omega, rfl⟩))) ?_
          try simp only [go_sem]
          refine FRN.nil ?_
          refine DW.acp [b] [] rfl rfl rfl rfl (by (try simp only [go_sem, pob, fb6, fb8]); rfl) rfl (pstop_c T b l (i) _ _ 3 (by decide)) ?_
          rintro _ _ ⟨rfl, rfl⟩
          try simp only [go_sem, pob, fb8]
          first | with_reducible refine And.intro (by simp [getO, pob, tcast, nA, tA, txA, tsA, tstA, cA, csA, cmdA, Int.toNat_natCast, fb6, fb8]) ?_ | skip
          refine lvc_ok _ _ _ ?_
          try simp only [go_sem, fb6, fb8]
          refine hK17 _ _ ?_
          try clear hK17 K17
          refine AWp.mask [false, false, false, true, true] rfl ?_
          simp only [go_sem]
          refine AWp.ret ?_
          try simp only [thenQ]
          apply endW_r [b6, b8] [] [b] [] (by (try simp only [go_sem, fb6, fb8]); rfl)
          · refine ⟨(.mk kd [] tst0 [] []), i, _, _, rfl, by first | rfl | (simp only [go_sem, pob, fb6, fb8]; done) | (simp only [go_sem, pob, fb6, fb8]; rfl), by omega, ?_⟩
            rw [cd_w hd0 hw]
            exact RR.er_ _ _ (gv_ne (by decide))
          · simp [LeA, LeL, LeD, cmdA, tstA, kidsD, kidsL_eq, tst0, Tst.kind, Tst.mat, Tst.part, Tst.names, Tst.keys, Tst.over, Tst.limit, Cmd.kind, Cmd.texts, Cmd.test, thnD, elsD, cmdsL, cA]
        · skip
          try simp only [decide_eq_false_iff_not] at hc3
          have hw : wordR l i cmT = .ok kd (i + 1) := by have h9 := kdS_ok (tab := cmT) (l := l) (i := i) (fun h8 => hc3 (h3.trans h8)); rw [show kdS cmT l i cmT.length = kd from h3.symm] at h9; exact h9
          obtain ⟨w1, w2, w3, w4⟩ := wordR_ok hw
          clear w4
          have wlt := nx_lt w1
          refine AWp.skip ?_
          refine thenQ_n ?_
          refine hK15 _ _ ?_
          try clear hK15 K15
          refine AWp.rs fun K18 hK18 => ?_
          try simp only [go_sem, tcast]
          (repeat (with_reducible refine And.intro ?_ ?_; omega))
          refine hK18 _ _ ?_
          try clear hK18 K18
          obtain ⟨j, hj⟩ : ∃ j : Nat, j = i + 1 := ⟨_, rfl⟩
          rw [← hj]
          rw [← hj] at hw
          refine AWp.seq fun K19 hK19 => ?_
          refine AWp.rs fun K20 hK20 => ?_
          try simp only [go_sem, fb8]
          refine hK20 _ _ ?_
          try clear hK20 K20
          refine AWp.mask [true, true, true, true, true, false, false, false, false, false, true] rfl ?_
          simp only [go_sem]
          refine AWp.cond _ rfl (fun hc4 => ?_) (fun hc4 => ?_)
          · skip
            try simp only [decide_eq_true_eq] at hc4
            subst hc4
            have hno2 : branchR nn l j d ≠ .oof := by have h9 := hno; rw [cd_2 hd0 hw] at h9; exact h9
            have hd6 : d ≤ 6 := by rcases Nat.lt_or_ge 6 d with h9 | h9; exact absurd ⟨h9, wlt⟩ hd0; exact h9
            refine AWp.rs fun K21 hK21 => ?_
            try simp only [go_sem]
            refine DW.acp [b] [] rfl rfl rfl rfl (by (try simp only [go_sem, pob, fb6, fb8]); rfl) rfl (ihr nn (Nat.le_refl _) b l j d _ _ hl (by omega) hd6 hno2) ?_
            rintro _ _ ⟨ax, nx, fx, ex, rfl, rfl, ubx, rx⟩
            try simp only [go_sem, pob, tstA, cA, cmdA]
            intro b10
            first | intro fb10 | have fb10 := True.intro
            try simp only [freshL] at fb10
            refine hK21 _ _ ?_
            try clear hK21 K21
            refine AWp.mask [false, false, false, true, false, true, true] rfl ?_
            simp only [go_sem]
            refine AWp.rs fun K22 hK22 => ?_
            try simp only [go_sem, fb6, fb8, fb10]
            refine hK22 _ _ ?_
            try clear hK22 K22
            refine AWp.mask [true, true] rfl ?_
            simp only [go_sem]
            refine AWp.ret ?_
            try simp only [thenQ]
            apply endW_r [b6, b8, b10] [] [b] [] (by (try simp only [go_sem, fb6, fb8, fb10]); rfl)
            · refine ⟨ax, nx, fx, ex, rfl, by first | rfl | (simp only [go_sem, pob, fb6, fb8, fb10]; done) | (simp only [go_sem, pob, tcast, nA, tA, txA, tsA, tstA, cA, csA, cmdA, Int.toNat_natCast, fb6, fb8, fb10]; rfl), by omega, ?_⟩
              rw [cd_2 hd0 hw]
              exact rx
            · simp [LeA, LeL, LeD, cmdA, tstA, Tst.kind, Tst.mat, Tst.part, Tst.names, Tst.keys, Tst.over, Tst.limit, Cmd.kind, Cmd.texts, Cmd.test, cA]
          · skip
            try simp only [decide_eq_false_iff_not] at hc4
            refine AWp.skip ?_
            refine thenQ_n ?_
            refine hK19 _ _ ?_
            try clear hK19 K19
            refine AWp.seq fun K23 hK23 => ?_
            refine AWp.rs fun K24 hK24 => ?_
            try simp only [go_sem, fb8]
            (repeat (with_reducible refine And.intro ?_ ?_; (exact nfB)))
            refine hK24 _ _ ?_
            try clear hK24 K24
            refine AWp.mask [true, true, false, true, true, false, false, false, false, false, false, false, false, false, false, false, false, false, true] rfl ?_
            simp only [go_sem]
            refine AWp.cond _ rfl (fun hc5 => ?_) (fun hc5 => ?_)
            · skip
              try simp only [decide_eq_true_eq, Bool.or_eq_true] at hc5
              have hk : kd = 1 ∨ kd = 8 ∨ kd = 9 := by omega
              refine AWp.rk fun K25 hK25 => ?_
              try simp only [go_sem]
              refine DW.acp [b] [] rfl rfl rfl rfl (by (try simp only [go_sem, pob, fb6, fb8]); rfl) rfl (pstrs_c T b l j _ _ hl (by omega)) ?_
              rintro _ _ ⟨ay, ny, fy, ey, rfl, rfl, uby, ry⟩
              try simp only [go_sem, pob, txA, fb8]
              refine hK25 _ _ ?_
              try clear hK25 K25
              refine thenQ_n ?_
              refine hK23 _ _ ?_
              try clear hK23 K23
              refine AWp.mask [true, true, true, true] rfl ?_
              simp only [go_sem]
              refine AWp.seq fun K26 hK26 => ?_
              refine AWp.rs fun K27 hK27 => ?_
              try simp only [go_sem, fb8]
              refine DW.pcr rfl rfl rfl rfl (In_c T _ _ _) rfl rfl ?_
              try simp only [go_sem]
              refine hK27 _ _ ?_
              try clear hK27 K27
              refine AWp.cond _ rfl (fun hc6 => ?_) (fun hc6 => ?_)
              · skip
                exact absurd hc6 (by simp; omega)
              · skip
                try simp only [decide_eq_false_iff_not, Bool.and_eq_false_iff, Int.not_le] at hc6
                refine AWp.skip ?_
                refine thenQ_n ?_
                refine hK26 _ _ ?_
                try clear hK26 K26
                refine AWp.seq fun K28 hK28 => ?_
                refine AWp.rs fun K29 hK29 => ?_
                try simp only [go_sem, fb6, fb8]
                refine hK29 _ _ ?_
                try clear hK29 K29
                refine AWp.mask [true, true, true, true, false, false, false, false, false, false, false, true] rfl ?_
                simp only [go_sem]
                refine AWp.cond _ rfl (fun hc7 => ?_) (fun hc7 => ?_)
                · skip
                  try simp only [decide_eq_true_eq] at hc7
                  obtain ⟨p1, p2⟩ := ry.ok0 (strsR_oof _ _) hc7
                  have ly := strsR_le _ _ _ _ p1
                  subst hc7 p2
                  refine AWp.rk fun K30 hK30 => ?_
                  try simp only [go_sem]
                  refine DW.acp [b] [] rfl rfl rfl rfl (by (try simp only [go_sem, pob, fb6, fb8]); rfl) rfl (pmark_c T b l ny _ _ [59] (by omega)) ?_
                  rintro _ _ ⟨am, nm, fm, em, rfl, rfl, ubm, rm⟩
                  try simp only [go_sem, pob, nA]
                  refine hK30 _ _ ?_
                  try clear hK30 K30
                  refine thenQ_n ?_
                  refine hK28 _ _ ?_
                  try clear hK28 K28
                  refine AWp.mask [false, true, true, true] rfl ?_
                  simp only [go_sem]
                  refine AWp.rs fun K31 hK31 => ?_
                  try simp only [go_sem, fb6, fb8]
                  refine hK31 _ _ ?_
                  try clear hK31 K31
                  refine AWp.mask [false, true, true] rfl ?_
                  simp only [go_sem]
                  refine AWp.ret ?_
                  apply endW_r [b6, b8] [] [b] [] (by (try simp only [go_sem, fb6, fb8]); rfl)
                  · refine ⟨(.mk kd ay tst0 [] []), nm, fm, em, rfl, by first | rfl | (simp only [go_sem, pob, fb6, fb8]; done) | (simp only [go_sem, pob, tcast, nA, tA, txA, tsA, tstA, cA, csA, cmdA, Int.toNat_natCast, fb6, fb8]; rfl), by omega, ?_⟩
                    first | rw [cd_l hd0 hw hk, p1, Rd.bind_ok] | rw [cd_t hd0 hw hk2, p1, Rd.bind_ok] | rw [cd_n hd0 hw hk3]
                    by_cases h9 : em = 0
                    · refine rm.next (mustR_oof _ _ _) h9 ?_
                      obtain ⟨_, rfl⟩ := rm.ok0 (mustR_oof _ _ _) h9
                      subst h9
                      exact RR.ok_ _ _
                    · exact rm.thru (mustR_oof _ _ _) h9 _ _
                  · simp [LeA, LeL, LeD, cmdA, tstA, kidsD, kidsL_eq, tst0, Tst.kind, Tst.mat, Tst.part, Tst.names, Tst.keys, Tst.over, Tst.limit, Cmd.kind, Cmd.texts, Cmd.test, thnD, elsD, cmdsL, cA]
                · skip
                  try simp only [decide_eq_false_iff_not] at hc7
                  refine AWp.skip ?_
                  refine thenQ_n ?_
                  refine hK28 _ _ ?_
                  try clear hK28 K28
                  refine AWp.rs fun K32 hK32 => ?_
                  try simp only [go_sem, fb6, fb8]
                  refine hK32 _ _ ?_
                  try clear hK32 K32
                  refine AWp.mask [false, false, true, true] rfl ?_
                  simp only [go_sem]
                  refine AWp.ret ?_
                  apply endW_r [b6, b8] [] [b] [] (by (try simp only [go_sem, fb6, fb8]); rfl)
                  · refine ⟨(.mk kd ay tst0 [] []), ny, fy, ey, rfl, by first | rfl | (simp only [go_sem, pob, fb6, fb8]; done) | (simp only [go_sem, pob, tcast, nA, tA, txA, tsA, tstA, cA, csA, cmdA, Int.toNat_natCast, fb6, fb8]; rfl), by omega, ?_⟩
                    rw [cd_l hd0 hw hk]
                    exact ry.thru (strsR_oof _ _) hc7 _ _
                  · simp [LeA, LeL, LeD, cmdA, tstA, kidsD, kidsL_eq, tst0, Tst.kind, Tst.mat, Tst.part, Tst.names, Tst.keys, Tst.over, Tst.limit, Cmd.kind, Cmd.texts, Cmd.test, thnD, elsD, cmdsL, cA]
            · skip
              try simp only [decide_eq_false_iff_not, Bool.or_eq_false_iff] at hc5
              have hk : ¬ (kd = 1 ∨ kd = 8 ∨ kd = 9) := by omega
              refine AWp.skip ?_
              refine thenQ_n ?_
              refine hK23 _ _ ?_
              try clear hK23 K23
              refine AWp.seq fun K33 hK33 => ?_
              refine AWp.rs fun K34 hK34 => ?_
              try simp only [go_sem, fb8]
              refine DW.pcr rfl rfl rfl rfl (In_c T _ _ _) rfl rfl ?_
              try simp only [go_sem]
              refine hK34 _ _ ?_
              try clear hK34 K34
              refine AWp.cond _ rfl (fun hc6 => ?_) (fun hc6 => ?_)
              · skip
                try simp only [decide_eq_true_eq, Bool.and_eq_true] at hc6
                have hk2 : kd = 5 ∨ kd = 6 ∨ kd = 7 := by omega
                refine AWp.rs fun K35 hK35 => ?_
                try simp only [go_sem]
                refine DW.acp [b] [] rfl rfl rfl rfl (by (try simp only [go_sem, pob, fb6, fb8]); rfl) rfl (pstr_c T b l j _ _ (by omega)) ?_
                rintro _ _ ⟨az, nz, fz, ez, rfl, rfl, ubz, rz⟩
                try simp only [go_sem, pob, tA]
                refine hK35 _ _ ?_
                try clear hK35 K35
                refine AWp.mask [true, false, true, true, true, true] rfl ?_
                simp only [go_sem]
                refine AWp.cut 1 fun K36 hK36 => ?_
                simp only [List.take_succ_cons, List.take_zero, List.drop_succ_cons, List.drop_zero]
                try simp only [go_sem]
                refine DW.bsO (he := by first | rfl | kernel_rfl) rfl rfl (show slI Tryd.prog 27 = some (9, 1, 16) by simp only [go_sem]) (by (try simp only [go_sem]); rfl) rfl (by decide) fun t1 ft1 => ?_
                try simp only [freshT] at ft1
                try simp only [go_sem, fb8]
                refine hK36 _ _ ?_
                try clear hK36 K36
                refine AWp.mask [true, true, true, false, true] rfl ?_
                simp only [go_sem]
                refine AWp.rk fun K37 hK37 => ?_
                try simp only [go_sem]
                refine hK37 _ _ ?_
                try clear hK37 K37
                refine thenQ_n ?_
                refine hK33 _ _ ?_
                try clear hK33 K33
                refine AWp.seq fun K38 hK38 => ?_
                refine AWp.rs fun K39 hK39 => ?_
                try simp only [go_sem, fb6, fb8]
                refine hK39 _ _ ?_
                try clear hK39 K39
                refine AWp.mask [true, true, true, true, false, false, false, false, false, false, true] rfl ?_
                simp only [go_sem]
                refine AWp.cond _ rfl (fun hc7 => ?_) (fun hc7 => ?_)
                · skip
                  try simp only [decide_eq_true_eq] at hc7
                  obtain ⟨p1, p2⟩ := rz.ok0 (nextR_oof _ _ _) hc7
                  obtain ⟨z1, z2, z3⟩ := nextR_ok p1
                  have zlt := nx_lt z1
                  subst hc7 p2
                  refine AWp.rk fun K40 hK40 => ?_
                  try simp only [go_sem]
                  refine DW.acp [b] [] rfl rfl rfl rfl (by (try simp only [go_sem, pob, fb6, fb8]); rfl) rfl (pmark_c T b l nz _ _ [59] (by omega)) ?_
                  rintro _ _ ⟨am, nm, fm, em, rfl, rfl, ubm, rm⟩
                  try simp only [go_sem, pob, nA]
                  refine hK40 _ _ ?_
                  try clear hK40 K40
                  refine thenQ_n ?_
                  refine hK38 _ _ ?_
                  try clear hK38 K38
                  refine AWp.mask [false, true, true, true] rfl ?_
                  simp only [go_sem]
                  refine AWp.rs fun K41 hK41 => ?_
                  try simp only [go_sem, fb6, fb8]
                  refine hK41 _ _ ?_
                  try clear hK41 K41
                  refine AWp.mask [false, true, true] rfl ?_
                  simp only [go_sem]
                  refine AWp.ret ?_
                  apply endW_r [b6, b8] [t1] [b] [] (by (try simp only [go_sem, fb6, fb8]); rfl)
                  · refine ⟨(.mk kd [az.text] tst0 [] []), nm, fm, em, rfl, by first | rfl | (simp only [go_sem, pob, fb6, fb8]; done) | (simp only [go_sem, pob, tcast, nA, tA, txA, tsA, tstA, cA, csA, cmdA, Int.toNat_natCast, fb6, fb8, ft1]; rfl), by omega, ?_⟩
                    first | rw [cd_l hd0 hw hk, p1, Rd.bind_ok] | rw [cd_t hd0 hw hk2, p1, Rd.bind_ok] | rw [cd_n hd0 hw hk3]
                    by_cases h9 : em = 0
                    · refine rm.next (mustR_oof _ _ _) h9 ?_
                      obtain ⟨_, rfl⟩ := rm.ok0 (mustR_oof _ _ _) h9
                      subst h9
                      exact RR.ok_ _ _
                    · exact rm.thru (mustR_oof _ _ _) h9 _ _
                  · simp [LeA, LeL, LeD, cmdA, tstA, strD, kidsD, kidsL_eq, tst0, Tst.kind, Tst.mat, Tst.part, Tst.names, Tst.keys, Tst.over, Tst.limit, Cmd.kind, Cmd.texts, Cmd.test, thnD, elsD, cmdsL, cA]
                · skip
                  try simp only [decide_eq_false_iff_not] at hc7
                  refine AWp.skip ?_
                  refine thenQ_n ?_
                  refine hK38 _ _ ?_
                  try clear hK38 K38
                  refine AWp.rs fun K42 hK42 => ?_
                  try simp only [go_sem, fb6, fb8]
                  refine hK42 _ _ ?_
                  try clear hK42 K42
                  refine AWp.mask [false, false, true, true] rfl ?_
                  simp only [go_sem]
                  refine AWp.ret ?_
                  apply endW_r [b6, b8] [t1] [b] [] (by (try simp only [go_sem, fb6, fb8]); rfl)
                  · refine ⟨(.mk kd [az.text] tst0 [] []), nz, fz, ez, rfl, by first | rfl | (simp only [go_sem, pob, fb6, fb8]; done) | (simp only [go_sem, pob, tcast, nA, tA, txA, tsA, tstA, cA, csA, cmdA, Int.toNat_natCast, fb6, fb8, ft1]; rfl), by omega, ?_⟩
                    rw [cd_t hd0 hw hk2]
                    exact rz.thru (nextR_oof _ _ _) hc7 _ _
                  · simp [LeA, LeL, LeD, cmdA, tstA, strD, kidsD, kidsL_eq, tst0, Tst.kind, Tst.mat, Tst.part, Tst.names, Tst.keys, Tst.over, Tst.limit, Cmd.kind, Cmd.texts, Cmd.test, thnD, elsD, cmdsL, cA]
              · skip
                try simp only [decide_eq_false_iff_not, Bool.and_eq_false_iff, Int.not_le] at hc6
                refine AWp.skip ?_
                refine thenQ_n ?_
                refine hK33 _ _ ?_
                try clear hK33 K33
                refine AWp.mask [true, true, true, true] rfl ?_
                simp only [go_sem]
                refine AWp.seq fun K43 hK43 => ?_
                refine AWp.rs fun K44 hK44 => ?_
                try simp only [go_sem, fb6, fb8]
                refine hK44 _ _ ?_
                try clear hK44 K44
                refine AWp.mask [true, true, true, true, false, false, false, false, true] rfl ?_
                simp only [go_sem]
                refine AWp.cond _ rfl (fun hc7 => ?_) (fun hc7 => ?_)
                · skip
                  try simp only [decide_eq_true_eq] at hc7
                  have hk3 : ¬ kd = 2 ∧ ¬ (kd = 1 ∨ kd = 8 ∨ kd = 9) ∧ ¬ (kd = 5 ∨ kd = 6 ∨ kd = 7) := ⟨by omega, hk, by omega⟩
                  refine AWp.rk fun K45 hK45 => ?_
                  try simp only [go_sem]
                  refine DW.acp [b] [] rfl rfl rfl rfl (by (try simp only [go_sem, pob, fb6, fb8]); rfl) rfl (pmark_c T b l j _ _ [59] (by omega)) ?_
                  rintro _ _ ⟨am, nm, fm, em, rfl, rfl, ubm, rm⟩
                  try simp only [go_sem, pob, nA]
                  refine hK45 _ _ ?_
                  try clear hK45 K45
                  refine thenQ_n ?_
                  refine hK43 _ _ ?_
                  try clear hK43 K43
                  refine AWp.mask [false, true, true, true] rfl ?_
                  simp only [go_sem]
                  refine AWp.rs fun K46 hK46 => ?_
                  try simp only [go_sem, fb6, fb8]
                  refine hK46 _ _ ?_
                  try clear hK46 K46
                  refine AWp.mask [false, true, true] rfl ?_
                  simp only [go_sem]
                  refine AWp.ret ?_
                  apply endW_r [b6, b8] [] [b] [] (by (try simp only [go_sem, fb6, fb8]); rfl)
                  · refine ⟨(.mk kd [] tst0 [] []), nm, fm, em, rfl, by first | rfl | (simp only [go_sem, pob, fb6, fb8]; done) | (simp only [go_sem, pob, tcast, nA, tA, txA, tsA, tstA, cA, csA, cmdA, Int.toNat_natCast, fb6, fb8]; rfl), by omega, ?_⟩
                    first | rw [cd_l hd0 hw hk, p1, Rd.bind_ok] | rw [cd_t hd0 hw hk2, p1, Rd.bind_ok] | rw [cd_n hd0 hw hk3]
                    by_cases h9 : em = 0
                    · refine rm.next (mustR_oof _ _ _) h9 ?_
                      obtain ⟨_, rfl⟩ := rm.ok0 (mustR_oof _ _ _) h9
                      subst h9
                      exact RR.ok_ _ _
                    · exact rm.thru (mustR_oof _ _ _) h9 _ _
                  · simp [LeA, LeL, LeD, cmdA, tstA, kidsD, kidsL_eq, tst0, Tst.kind, Tst.mat, Tst.part, Tst.names, Tst.keys, Tst.over, Tst.limit, Cmd.kind, Cmd.texts, Cmd.test, thnD, elsD, cmdsL, cA]
                · skip
                  exact absurd hc7 (by simp)
abbrev PCmdT (T : Tbl) (n : Nat) : Prop := ∀ (b : Nat) (l : List Tk) (i d : Nat) (F : List (Nat × Ob)) (L : List Nat), l.length ≤ 400 → i ≤ l.length → d ≤ 7 → cmdR n l i d ≠ .oof → AC Tryd.prog T 44 [.ptr b 3 0 0, .d (.int .i64 (i : Nat)), .d (.int .i64 (d : Nat))] ⟨pob b l 0 0 :: F, L⟩ (RE (500 + n) b F L l cA (cmdR n l i d))
abbrev PBlkT (T : Tbl) (n : Nat) : Prop := ∀ (b : Nat) (l : List Tk) (i d : Nat) (F : List (Nat × Ob)) (L : List Nat), l.length ≤ 400 → i ≤ l.length → d ≤ 7 → blockR n l i d ≠ .oof → AC Tryd.prog T 137 [.ptr b 3 0 0, .d (.int .i64 (i : Nat)), .d (.int .i64 (d : Nat))] ⟨pob b l 0 0 :: F, L⟩ (RE (500 + n) b F L l csA (blockR n l i d))
abbrev PBraT (T : Tbl) (n : Nat) : Prop := ∀ (b : Nat) (l : List Tk) (i d : Nat) (F : List (Nat × Ob)) (L : List Nat), l.length ≤ 400 → i ≤ l.length → d ≤ 6 → branchR n l i d ≠ .oof → AC Tryd.prog T 90 [.ptr b 3 0 0, .d (.int .i64 (i : Nat)), .d (.int .i64 (d : Nat))] ⟨pob b l 0 0 :: F, L⟩ (RE (500 + n) b F L l cA (branchR n l i d))
theorem pcmd_n (T : Tbl) : ∀ (n m : Nat), n ≤ 100000 → m ≤ n → PCmdT T m ∧ PBlkT T m ∧ PBraT T m := by
  intro n
  induction n with
  | zero =>
    intro m hn hm
    obtain rfl : m = 0 := by omega
    exact ⟨fun b l i d F L hl hi hd hno => absurd (by rw [cmdR]) hno, fun b l i d F L hl hi hd hno => absurd (by rw [blockR]) hno, fun b l i d F L hl hi hd hno => absurd (by rw [branchR]) hno⟩
  | succ n ih =>
    intro m hn hm
    cases m with
    | zero => exact ⟨fun b l i d F L hl hi hd hno => absurd (by rw [cmdR]) hno, fun b l i d F L hl hi hd hno => absurd (by rw [blockR]) hno, fun b l i d F L hl hi hd hno => absurd (by rw [branchR]) hno⟩
    | succ m =>
      refine ⟨fun b l i d F L hl hi hd hno => ?_, fun b l i d F L hl hi hd hno => ?_, fun b l i d F L hl hi hd hno => ?_⟩
      · exact pcommand_s T m (by omega) (fun q h2 => (ih q (by omega) (by omega)).2.2) b l i d F L hl hi hd hno
      · exact pblock_s T m (by omega) (fun q h2 => (ih q (by omega) (by omega)).1) b l i d F L hl hi hd hno
      · exact pbranch_s T m (by omega) (fun q h2 => (ih q (by omega) (by omega)).2.1) (fun q h2 => (ih q (by omega) (by omega)).2.2) b l i d F L hl hi hd hno
theorem pcommand_c (T : Tbl) (n : Nat) (hn : n ≤ 100000) : PCmdT T n := (pcmd_n T n n hn (Nat.le_refl _)).1
end Go.Proofs.YthpkjmbdjnelfaaDoor

namespace Go.Proofs.YthpkjmbdjnelfaaDoor
set_option linter.unusedSimpArgs false
set_option linter.unusedVariables false
/-- the first token that is wrong, from a place on -/
def badT : List Tk → Nat → Option (Nat × Int)
  | [], _ => none
  | t :: r, j => if tkE t = 0 then badT r (j + 1) else some (j, tkE t)
theorem badT_s {l : List Tk} {j : Nat} (h : j < l.length) : badT (l.drop j) j = if tkE (l[j]) = 0 then badT (l.drop (j + 1)) (j + 1) else some (j, tkE (l[j])) := by
  rw [List.drop_eq_getElem_cons h]; rfl
theorem badT_e {l : List Tk} {j : Nat} (h : l.length ≤ j) : badT (l.drop j) j = none := by rw [List.drop_eq_nil_of_le h]; rfl
/-- how much fuel -/
def fuelR (l : List Tk) : Nat := 2 * l.length + 2
/-- what reading answers -/
def parR (l : List Tk) : List Cmd × Int × Int :=
  if 400 < l.length then ([], 0, 5)
  else match badT l 0 with
    | some (i, e) => ([], i, e)
    | none => match progR (fuelR l) l 0 [] with
      | .ok cs _ => (cs, 0, 0)
      | .err i e => ([], i, gv l i e)
      | .oof => ([], 0, 0)
theorem par_1 {l : List Tk} (h : 400 < l.length) : parR l = ([], 0, 5) := by rw [parR, if_pos h]
theorem par_2 {l : List Tk} (h : ¬ 400 < l.length) {i : Nat} {e : Int} (hb : badT l 0 = some (i, e)) : parR l = ([], (i : Int), e) := by rw [parR, if_neg h, hb]
theorem par_3 {l : List Tk} (h : ¬ 400 < l.length) (hb : badT l 0 = none) {i : Nat} {e : Int} (hp : progR (fuelR l) l 0 [] = .err i e) : parR l = ([], (i : Int), gv l i e) := by rw [parR, if_neg h, hb, hp]
theorem par_4 {l : List Tk} (h : ¬ 400 < l.length) (hb : badT l 0 = none) {i : Nat} {cs : List Cmd} (hp : progR (fuelR l) l 0 [] = .ok cs i) : parR l = (cs, 0, 0) := by rw [parR, if_neg h, hb, hp]
def parV (r : List Cmd × Int × Int) : AV := .tup [.d (.slc 12 (r.1.map cmdD)), .d (.int .i64 r.2.1), .d (.int .i64 r.2.2)]
/-- a slice that is own, or whose last row is an object -/
def LHd (k : Nat) (rows : List (List D)) (X : List (Nat × Ob)) (c : AV) (ts : List Nat) : Prop :=
  (∃ w, c = .own w k rows ∧ X = [] ∧ ts = [w]) ∨ ∃ b ck r z, rows = r ++ [z] ∧ z.length = k ∧ c = .lar b k r ck ∧ X = [(b, ⟨k, ck, lrows r.length (z.map .d)⟩)] ∧ ts = []
theorem LHd.own {k w : Nat} {rows : List (List D)} : LHd k rows [] (.own w k rows) [w] := .inl ⟨w, rfl, rfl, rfl⟩
theorem AWp.larO {P : Program} {T : Tbl} {Q : AQ} {sl : List AV} {code : Code} {k b2 : Nat} {rows : List (List D)} {X : List (Nat × Ob)} {c : AV} {ts : List Nat} {o1 o2 o3 : Nat × Ob} (hL : LHd k rows X c ts) (hk : 0 < k) (h1 : (b2 == o1.1) = false) (h2 : (b2 == o2.1) = false) (h3 : (b2 == o3.1) = false)
    (H : ∀ w, AWp P T code Q sl ⟨[o1, o2, o3, (b2, ⟨1, 1, [[.own w k rows]]⟩)], [w]⟩) : AWp P T code Q sl ⟨X ++ [o1, o2, o3, (b2, ⟨1, 1, [[c]]⟩)], ts⟩ := by
  rcases hL with ⟨w, rfl, rfl, rfl⟩ | ⟨b, ck, r, z, rfl, hz, rfl, rfl, rfl⟩
  · exact H w
  · obtain ⟨i1, o1⟩ := o1
    obtain ⟨i2, o2⟩ := o2
    obtain ⟨i3, o3⟩ := o3
    simp only at h1 h2 h3
    have n1 : i1 ≠ b2 := fun e => by simp [e] at h1
    have n2 : i2 ≠ b2 := fun e => by simp [e] at h2
    have n3 : i3 ≠ b2 := fun e => by simp [e] at h3
    refine AWp.larN (n := r.length) (b' := b2) (i := 0) (j := 0) (ob := ⟨1, 1, [[.lar b k r ck]]⟩) (r := [.lar b k r ck]) rfl (by simp [getO, n1, n2, n3]) rfl rfl hk hz fun w fw => ?_
    have := H w
    simpa [setO, n1, n2, n3] using this
theorem parse1_none (T : Tbl) (b2 b3 b4 : Nat) (h : AH) : ADefer Tryd.prog T 42 [.ptr b2 1 0 0, .ptr b3 1 0 0, .ptr b4 1 0 0] h none (fun h' => h' = h) := by
  refine ADefer.enter (t0 := 5) (t1 := 3) Tryd.call42 Tryd.func42 rfl Tryd.ntmps42 Tryd.results42 rfl rfl rfl rfl rfl rfl rfl rfl trivial ?_
  simp only [go_sem, Option.getD]
  refine AWp.rs fun K1 hK1 => ?_
  try simp only [go_sem]
  refine hK1 _ _ ?_
  refine AWp.cond _ rfl (fun hc => ?_) (fun hc => ?_)
  · exact absurd hc (by simp)
  · exact AWp.skip rfl
theorem parse1_some (T : Tbl) (b2 b3 b4 : Nat) (x y z : AV) (i e : Int) (F : List (Nat × Ob)) (L : List Nat) (h23 : (b2 == b3) = false ∧ (b3 == b2) = false) (h24 : (b2 == b4) = false ∧ (b4 == b2) = false) (h34 : (b3 == b4) = false ∧ (b4 == b3) = false) : ADefer Tryd.prog T 42 [.ptr b2 1 0 0, .ptr b3 1 0 0, .ptr b4 1 0 0] ⟨(b2, ⟨1, 1, [[x]]⟩) :: (b3, ⟨1, 1, [[y]]⟩) :: (b4, ⟨1, 1, [[z]]⟩) :: F, L⟩ (some (.ifc 83 (.agg [.d (.int .i64 i), .d (.int .i64 e)]))) (fun h' => ∃ b5 ob, (b5 == b2) = false ∧ (b5 == b3) = false ∧ (b5 == b4) = false ∧ h' = ⟨(b5, ob) :: (b2, ⟨1, 1, [[.nils]]⟩) :: (b3, ⟨1, 1, [[.d (.int .i64 i)]]⟩) :: (b4, ⟨1, 1, [[.d (.int .i64 e)]]⟩) :: F, L⟩) := by
  refine ADefer.enter (t0 := 5) (t1 := 3) Tryd.call42 Tryd.func42 rfl Tryd.ntmps42 Tryd.results42 rfl rfl rfl rfl rfl rfl rfl rfl trivial ?_
  simp only [go_sem, Option.getD]
  refine AWp.rs fun K1 hK1 => ?_
  try simp only [go_sem]
  refine hK1 _ _ ?_
  refine AWp.cond _ rfl (fun hc => ?_) (fun hc => ?_)
  · refine AWp.rs fun K2 hK2 => ?_
    try simp only [go_sem, assertP]
    intro b5
    intro f5
    try simp only [freshL] at f5
    refine hK2 _ _ ?_
    refine AWp.dkN true [0, 2] [1, 3] [4, 5] 6 [] rfl (by kernel_rfl) rfl fun K2 hK2 => ?_
    try simp only [go_sem]
    refine Exists.intro (fun h' : AH => getO b5 h'.objs = some ⟨2, 1, [[.d (.int .i64 i), .d (.int .i64 e)]]⟩) (And.intro (by simp [getO]) ?_)
    try simp only [go_sem]
    refine FRN.ld rfl rfl (fun h' m1 => (by first | rfl | (simp only [go_sem, m1]; first | done | rfl | exact ⟨by omega, rfl⟩))) ?_
    try simp only [go_sem]
    refine FRN.ld rfl rfl (fun h' m1 => (by first | rfl | (simp only [go_sem, m1]; first | done | rfl | exact ⟨by omega, rfl⟩))) ?_
    try simp only [go_sem]
    refine FRN.nil ?_
    refine lvc_ok _ _ _ ?_
    try simp only [go_sem, h23, h24, f5]
    try (with_reducible refine And.intro (by simp [getO, h23, h24, h34, f5]) ?_)
    refine lvc_ok _ _ _ ?_
    try simp only [go_sem, h23, h34, f5]
    try (with_reducible refine And.intro (by simp [getO, h23, h24, h34, f5]) ?_)
    refine lvc_ok _ _ _ ?_
    try simp only [go_sem, h24, h34, f5]
    refine hK2 _ _ ?_
    exact ⟨_, _, f5.1.2, f5.2.1.2, f5.2.2.1.2, rfl⟩
  · exact absurd hc (by simp)
set_option maxRecDepth 4000 in
set_option maxHeartbeats 1000000 in
theorem Parse_a (T : Tbl) (hS : ScT T) (l : List Tk) : AC Tryd.prog T 18 [.d (.slc 3 (tksD l))] (⟨[], []⟩) (fun x _ => x = .ret (parV (parR l))) := by
  refine ⟨Tryd.call18, ACalls.enterD Tryd.func18 rfl Tryd.ntmps18 rfl fun hb => ?_⟩
  simp only [go_sem, Tryd.results18]
  refine AWpD.seq fun K1 hK1 => ?_
  refine AWp.rk fun K2 hK2 => ?_
  try simp only [go_sem]
  intro b2
  first | intro fb2 | have fb2 := True.intro
  try simp only [freshL] at fb2
  intro b3
  first | intro fb3 | have fb3 := True.intro
  try simp only [freshL] at fb3
  intro b4
  first | intro fb4 | have fb4 := True.intro
  try simp only [freshL] at fb4
  refine hK2 _ _ ?_
  try clear hK2 K2
  refine thenQ_n ?_
  refine hK1 _ _ ?_
  try clear hK1 K1
  refine AWpD.seq fun K3 hK3 => ?_
  refine AWp.rs fun K4 hK4 => ?_
  try simp only [go_sem]
  refine hK4 _ _ ?_
  try clear hK4 K4
  refine AWp.cond _ rfl (fun hc0 => ?_) (fun hc0 => ?_)
  · skip
    try simp only [decide_eq_true_eq] at hc0
    refine AWp.rs fun K5 hK5 => ?_
    try simp only [go_sem, fb3, fb4]
    refine hK5 _ _ ?_
    try clear hK5 K5
    refine AWp.mask [false, true, true, true] rfl ?_
    simp only [go_sem]
    refine AWp.ret ?_
    try simp only [thenQ]
    simp only [endD]
    apply endW_r [b2, b3, b4] [] [] [] (by (try simp only [go_sem, fb3, fb4]); rfl)
    · rfl
    · rw [par_1 (by omega)]; simp [parV, LeA, LeL, LeD]
  · skip
    try simp only [decide_eq_false_iff_not, Int.not_lt] at hc0
    have hs : l.length ≤ 400 := by omega
    refine AWp.skip ?_
    refine thenQ_n ?_
    refine hK3 _ _ ?_
    try clear hK3 K3
    refine AWpD.seq fun K6 hK6 => ?_
    refine AWp.rs fun K7 hK7 => ?_
    try simp only [go_sem]
    refine hK7 _ _ ?_
    try clear hK7 K7
    refine AWp.block ?_
    refine AWp.mask [true, true, true, true, false, false, false, true, true, true] rfl ?_
    simp only [go_sem]
    refine AWp.loopS [true, true, true, true, true, true] [false, false, false, false, false, false, true] (fun n lc hc => ∃ (j : Nat), n = l.length - j ∧ EqS lc [(14, .d (.int .i64 j))] ∧ EqS hc (⟨[(b4, ⟨1, 1, [[.d (.int .i64 0)]]⟩), (b3, ⟨1, 1, [[.d (.int .i64 0)]]⟩), (b2, ⟨1, 1, [[.nils]]⟩)], []⟩) ∧ (j ≤ l.length) ∧ (badT l 0 = badT (l.drop j) j)) rfl ?_ ?_
    · refine ⟨_, 0, rfl, ?_, ?_, ?_, ?_⟩
      · (try simp only [go_sem]) <;> first | exact ⟨rfl⟩ | (constructor; simp; done)
      · (try simp only [go_sem, rob, tcast, cmdV, fb2, fb3, fb4]) <;> first | exact ⟨rfl⟩ | (constructor; simp; done)
      all_goals (first | omega | rfl | (simp; done) | (simp; omega) | assumption)
    · rintro _ _ _ ⟨j, rfl, ⟨rfl⟩, ⟨rfl⟩, h1, h3⟩
      simp only [go_sem]
      refine AWp.rs fun K8 hK8 => ?_
      try simp only [go_sem]
      refine hK8 _ _ ?_
      try clear hK8 K8
      refine AWp.seq fun K9 hK9 => ?_
      refine AWp.cond _ rfl (fun hc1 => ?_) (fun hc1 => ?_)
      · skip
        try simp only [decide_eq_true_eq] at hc1
        have hlt : j < l.length := by omega
        have hgd := tksD_gD l j [] hlt
        refine AWp.skip ?_
        refine thenQ_n ?_
        refine hK9 _ _ ?_
        try clear hK9 K9
        refine AWp.seq fun K10 hK10 => ?_
        refine AWp.block ?_
        refine AWp.rs fun K11 hK11 => ?_
        try simp only [go_sem, hgd, tkD]
        (repeat (with_reducible refine And.intro ?_ ?_; omega))
        intro b6
        first | intro fb6 | have fb6 := True.intro
        try simp only [freshL] at fb6
        refine hK11 _ _ ?_
        try clear hK11 K11
        refine AWp.mask [true, true, true, true, true, true, true, true, true] rfl ?_
        simp only [go_sem]
        refine AWp.rs fun K12 hK12 => ?_
        try simp only [go_sem, fb6]
        refine DW.pcr rfl rfl rfl rfl (tkCheck_c T (l[j])) rfl rfl ?_
        try simp only [go_sem]
        refine hK12 _ _ ?_
        try clear hK12 K12
        refine AWp.rs fun K13 hK13 => ?_
        try simp only [go_sem]
        refine hK13 _ _ ?_
        try clear hK13 K13
        refine AWp.mask [true, true, true, true, true, false, true, true, true, true, false, false, false, true] rfl ?_
        simp only [go_sem]
        refine AWp.cond _ rfl (fun hc2 => ?_) (fun hc2 => ?_)
        · skip
          try simp only [decide_eq_false_iff_not, Bool.not_eq_true'] at hc2
          have hb2 : badT l 0 = some (j, tkE (l[j])) := by rw [h3, badT_s hlt, if_neg (by omega)]
          refine AWp.rs fun K14 hK14 => ?_
          try simp only [go_sem, fb3, fb4, fb6]
          refine hK14 _ _ ?_
          try clear hK14 K14
          refine AWp.mask [false, true, true, true] rfl ?_
          simp only [go_sem]
          refine AWp.ret ?_
          try simp only [thenQ, blkQ]
          simp only [endD]
          apply endW_r [b2, b3, b4, b6] [] [] [] (by (try simp only [go_sem, fb3, fb4, fb6]); rfl)
          · rfl
          · rw [par_2 (by omega) hb2]; simp [parV, LeA, LeL, LeD]
        · skip
          try simp only [decide_eq_true_eq, Bool.not_eq_false'] at hc2
          have hbt : tkE (l[j]) = 0 := by omega
          refine AWp.skip ?_
          refine blkQ_n (thenQ_n ?_)
          refine hK10 _ _ ?_
          try clear hK10 K10
          refine AWp.rk fun K15 hK15 => ?_
          try simp only [go_sem, tcast]
          (repeat (with_reducible refine And.intro ?_ ?_; omega))
          refine hK15 _ _ ?_
          try clear hK15 K15
          refine thenQ_n ?_
          refine EndS.mk [true, true, true, true, false, false, true, true] [false, false, false, false, false, false, false, false, true] [b6] [] [b4, b3, b2] [] rfl ?_ ?_
          · (try simp only [go_sem]) <;> try rfl
          refine .e ⟨_, ?_, (j + 1), rfl, ?_, ?_, ?_, ?_⟩
          · first | omega | (simp; omega) | (grind)
          · (try simp only [go_sem]) <;> first | exact ⟨rfl⟩ | (constructor; simp; done)
          · (try simp only [go_sem, fb3, fb4, fb6]) <;> first | exact ⟨rfl⟩ | (constructor; simp; done)
          · omega
          · rw [h3, badT_s hlt, if_pos hbt]
      · skip
        try simp only [decide_eq_false_iff_not, Int.not_lt] at hc1
        have hbad : badT l 0 = none := by rw [h3, badT_e (by omega)]
        refine AWp.exit ?_
        refine thenQ_e (thenQ_e (blkQ_e (thenQ_n ?_)))
        refine hK6 _ _ ?_
        try clear hK6 K6
        refine AWpD.defer rfl rfl rfl (by rw [mkS_len]; decide) rfl rfl ?_
        try simp only [go_sem]
        refine AWp.mask [true, true, true, true] rfl ?_
        simp only [go_sem]
        refine AWp.rs fun K16 hK16 => ?_
        try simp only [go_sem]
        intro b8
        first | intro fb8 | have fb8 := True.intro
        try simp only [freshL] at fb8
        refine hK16 _ _ ?_
        try clear hK16 K16
        refine AWp.ownNilH b2 0 0 12 (by (try simp only [go_sem, fb3, fb4, fb8]); rfl) rfl rfl (by decide) fun t0 ft0 => ?_
        try simp only [freshT] at ft0
        simp only [go_sem, fb3, fb4, fb8]
        refine AWp.seq fun K17 hK17 => ?_
        refine AWp.block ?_
        refine AWp.mask [true, true, true, true, true] rfl ?_
        simp only [go_sem]
        refine AWp.loopS [true, true, true, true, true] [] (fun n lc hc => ∃ (j m : Nat) (acc : List Cmd) (X : List (Nat × Ob)) (c : AV) (ts : List Nat), n = 2 * m ∧ EqS lc [] ∧ EqS hc (⟨X ++ [rob b8 l j, (b4, ⟨1, 1, [[.d (.int .i64 0)]]⟩), (b3, ⟨1, 1, [[.d (.int .i64 0)]]⟩), (b2, ⟨1, 1, [[c]]⟩)], ts⟩) ∧ (j ≤ l.length) ∧ (acc.length ≤ j) ∧ (progR (fuelR l) l 0 [] = progR m l j acc) ∧ (progR m l j acc ≠ .oof) ∧ (LHd 12 (acc.map cmdD) X c ts)) rfl ?_ ?_
        · refine ⟨_, 0, fuelR l, [], [], .own t0 12 [], [t0], rfl, ?_, ?_, ?_, ?_, ?_, ?_, ?_⟩
          · (try simp only [go_sem]) <;> first | exact ⟨rfl⟩ | (constructor; simp; done)
          · (try simp only [go_sem, rob]) <;> first | exact ⟨rfl⟩ | (constructor; simp [rob]; done)
          all_goals (first | omega | (simp; done) | rfl | exact prog_ne _ _ _ _ (by simp [fuelR]) (by omega) | exact LHd.own)
        · rintro _ _ _ ⟨j, m, acc, X, c, ts, rfl, ⟨rfl⟩, ⟨rfl⟩, h1, h2, h4, h5, h6⟩
          obtain ⟨m, rfl⟩ : ∃ m2, m = m2 + 1 := by cases m with | zero => exact absurd (by rw [progR]) h5 | succ m => exact ⟨m, rfl⟩
          refine AWp.larO h6 (by decide) (by simp only [rob, fb8]) (by simp only [fb4]) (by simp only [fb3]) fun w => ?_
          simp only [go_sem]
          refine AWp.seq fun K18 hK18 => ?_
          refine AWp.rs fun K19 hK19 => ?_
          try simp only [go_sem, fb8]
          refine hK19 _ _ ?_
          try clear hK19 K19
          refine AWp.mask [true, true, true, true, true, false, false, false, false, false, false, true] rfl ?_
          simp only [go_sem]
          refine AWp.cond _ rfl (fun hc3 => ?_) (fun hc3 => ?_)
          · skip
            try simp only [decide_eq_true_eq] at hc3
            have hlt : j < l.length := by omega
            refine AWp.skip ?_
            refine thenQ_n ?_
            refine hK18 _ _ ?_
            try clear hK18 K18
            refine AWp.block ?_
            refine AWp.dkPA [(2, .ptr b2 1 0 0), (3, .ptr b3 1 0 0), (4, .ptr b4 1 0 0)] (AgK.mk3 rfl rfl rfl rfl rfl rfl) rfl false [1, 4] [0, 3] [2] 5 [6] 7 8 rfl (by kernel_rfl) rfl rfl rfl fun K20 hK20 => ?_
            try simp only [go_sem]
            refine Exists.intro (fun h' : AH => getO b2 h'.objs = some ⟨1, 1, [[.own w 12 (acc.map cmdD)]]⟩) (And.intro (by simp [getO, fb3, fb4, fb8]) ?_)
            try simp only [go_sem]
            refine FRN.ld rfl rfl (fun h' m1 => (by first | rfl | (simp only [go_sem, m1]; first | done | rfl | exact ⟨by omega, rfl⟩))) ?_
            try simp only [go_sem]
            refine FRN.op rfl (fun h' => (by first | rfl | (simp only [go_sem]; first | done | rfl | exact ⟨by omega, rfl⟩))) ?_
            try simp only [go_sem]
            refine FRN.nil ?_
            have hno2 : cmdR m l j 0 ≠ .oof := by have := h5; rw [pg_t hlt] at this; exact Rd.bind_no this
            refine DW.acp [b8] [] rfl rfl rfl rfl (by (try simp only [go_sem, rob, fb8]); rfl) rfl (command_c T hS m b8 l j 0 _ _ (by omega) h1 (by decide) hno2) ?_
            rintro _ _ hR
            rcases hR.cs hno2 with ⟨jc, ec, hc, rfl, rfl⟩ | ⟨ac, jc, hc, rfl, rfl⟩
            · skip
              intro _ hag
              refine endD_p [b8] [] [b2, b3, b4] [] ?_
              have hp : progR (fuelR l) l 0 [] = .err jc ec := by rw [h4, pg_t hlt, hc, Rd.bind_er]
              simp only [go_sem, rob, fb3, fb4, fb8]
              refine (parse1_some T b2 b3 b4 _ _ _ _ _ _ _ (by simp only [fb3, and_self]) (by simp only [fb4, and_self]) (by simp only [fb4, and_self])).mono ?_
              rintro _ ⟨b9, o9, n1, n2, n3, rfl⟩
              refine dEnd_mk [] [] [] [] (by (try simp only [go_sem, n1, n2, n3, fb3, fb4, hag.one, hag.tl.one, hag.tl.tl.one]); rfl) rfl ?_
              rw [par_3 (by omega) hbad hp]
              simp [parV, LeA, LeL, LeD]
            have lx := (cmd_le m).1 _ _ _ _ _ hc
            try simp only [go_sem, rob, cmdV, fb3, fb4, fb8]
            first | with_reducible refine And.intro (by simp [getO, rob, tcast, cmdV, fb2, fb3, fb4, fb8, ft0]) ?_ | skip
            refine DW.appL (tk := w) (rows := acc.map cmdD) rfl rfl rfl rfl (show slI Tryd.prog 43 = some (91, 12, 192) by simp only [go_sem]) rfl rfl (by simp) rfl (by (try simp only [List.length_map]); omega) (by (try simp only [List.length_map]); omega) fun bk ck fbk => ?_
            try simp only [freshL] at fbk
            try simp only [go_sem]
            apply Exists.intro
            apply Exists.intro
            refine And.intro ?_ (And.intro ?_ ?_)
            · refine lvc_ok _ _ _ ?_
              try simp only [go_sem, fb3, fb4, fb8, fbk]
              try exact ⟨rfl, rfl⟩
            · refine lvc_ok _ _ _ ?_
              try simp only [go_sem, fb3, fb4, fb8, fbk]
              try exact ⟨rfl, rfl⟩
            refine hK20 _ _ ?_
            try clear hK20 K20
            refine blkQ_n (thenQ_n ?_)
            refine EndS.mk [true, true, true, true, true] [] [] [] [bk, b8, b4, b3, b2] [] rfl ?_ ?_
            · (try simp only [go_sem]) <;> try rfl
            refine .e ⟨_, ?_, jc, m, (acc ++ [ac]), [(bk, ⟨12, ck, lrows acc.length ((cmdD ac).map .d)⟩)], (.lar bk 12 (acc.map cmdD) ck), [], rfl, ?_, ?_, ?_, ?_, ?_, ?_, ?_⟩
            · first | omega | (simp; omega) | (grind)
            · (try simp only [go_sem]) <;> first | exact ⟨rfl⟩ | (constructor; simp; done)
            · (try simp only [go_sem, fb3, fb4, fb8, fbk]) <;> first | exact ⟨rfl⟩ | (constructor; simp [rob]; done)
            · omega
            · simp; omega
            · rw [h4, pg_t hlt, hc, Rd.bind_ok]
            · have h9 := h5; rw [pg_t hlt, hc, Rd.bind_ok] at h9; exact h9
            · exact .inr ⟨bk, ck, acc.map cmdD, cmdD ac, by simp, rfl, rfl, by simp, rfl⟩
          · skip
            try simp only [decide_eq_false_iff_not, Int.not_lt] at hc3
            refine AWp.exit ?_
            refine thenQ_e (thenQ_e (blkQ_e (thenQ_n ?_)))
            refine hK17 _ _ ?_
            try clear hK17 K17
            refine AWp.rs fun K21 hK21 => ?_
            try simp only [go_sem, fb3, fb4, fb8]
            refine hK21 _ _ ?_
            try clear hK21 K21
            refine AWp.mask [false, true, true, true] rfl ?_
            simp only [go_sem]
            refine AWp.ret ?_
            refine endD_r [b8] [] [b2, b3, b4] [] ?_
            try simp only [go_sem, fb3, fb4, fb8]
            refine (parse1_none T b2 b3 b4 _).mono ?_
            rintro _ rfl
            refine dEnd_mk [] [] [] [] (by (try simp only [go_sem, fb3, fb4]); rfl) rfl ?_
            rw [par_4 (by omega) hbad (by rw [h4, pg_f (by omega)])]
            simp [parV, LeA, LeL, LeD]
end Go.Proofs.YthpkjmbdjnelfaaDoor

namespace Go.Proofs.YthpkjmbdjnelfaaDoor
set_option linter.unusedSimpArgs false
set_option linter.unusedVariables false
set_option maxRecDepth 4000 in
set_option maxHeartbeats 1000000 in
theorem CommandsOf_c (T : Tbl) (l : List Tk) : PC Tryd.prog T 19 [.d (.slc 3 (tksD l))] (parV (parR l)) := by
  refine ⟨Tryd.call19, PCall.enterS Tryd.func19 rfl Tryd.ntmps19 rfl fun hb => ?_⟩
  simp only [go_sem, Tryd.results19]
  refine AWp.rs fun K1 hK1 => ?_
  try simp only [go_sem]
  refine hK1 _ _ ?_
  try clear hK1 K1
  refine AWp.seq fun K2 hK2 => ?_
  refine AWp.rs fun K3 hK3 => ?_
  try simp only [go_sem]
  refine hK3 _ _ ?_
  try clear hK3 K3
  refine AWp.mask [true, false, false, false, false, false, true] rfl ?_
  simp only [go_sem]
  refine AWp.cond _ rfl (fun hc0 => ?_) (fun hc0 => ?_)
  · skip
    try simp only [decide_eq_true_eq] at hc0
    refine AWp.rs fun K4 hK4 => ?_
    try simp only [go_sem]
    refine hK4 _ _ ?_
    try clear hK4 K4
    refine AWp.ret ?_
    try simp only [go_sem]
    rw [par_1 (by omega)]; simp [parV, LeA, LeL, LeD]
  · skip
    try simp only [decide_eq_false_iff_not, Int.not_lt] at hc0
    have hs : l.length ≤ 400 := by omega
    refine AWp.skip ?_
    refine thenQ_n ?_
    refine hK2 _ _ ?_
    try clear hK2 K2
    refine AWp.seq fun K5 hK5 => ?_
    refine AWp.rs fun K6 hK6 => ?_
    try simp only [go_sem]
    refine hK6 _ _ ?_
    try clear hK6 K6
    refine AWp.block ?_
    refine AWp.mask [true, true] rfl ?_
    simp only [go_sem]
    refine AWp.loopS [true] [false, true] (fun n lc hc => ∃ (j : Nat), n = l.length - j ∧ EqS lc [(5, .d (.int .i64 (j : Nat)))] ∧ EqS hc (⟨[], []⟩) ∧ (j ≤ l.length) ∧ (badT l 0 = badT (l.drop j) j)) rfl ?_ ?_
    · refine ⟨_, 0, rfl, ?_, ?_, ?_, ?_⟩
      · (try simp only [go_sem]) <;> first | exact ⟨rfl⟩ | (constructor; simp; done)
      · (try simp only [go_sem, pob, tcast, cA, cmdA, tstA, LHd]) <;> first | exact ⟨rfl⟩ | (constructor; simp; done)
      all_goals (first | omega | rfl)
    · rintro _ _ _ ⟨j, rfl, ⟨rfl⟩, ⟨rfl⟩, h1, h3⟩
      simp only [go_sem]
      refine AWp.seq fun K7 hK7 => ?_
      refine AWp.rs fun K8 hK8 => ?_
      try simp only [go_sem]
      refine hK8 _ _ ?_
      try clear hK8 K8
      refine AWp.cond _ rfl (fun hc1 => ?_) (fun hc1 => ?_)
      · skip
        try simp only [decide_eq_true_eq] at hc1
        have hlt : j < l.length := by omega
        have hgd := tksD_gD l j [] hlt
        refine AWp.skip ?_
        refine thenQ_n ?_
        refine hK7 _ _ ?_
        try clear hK7 K7
        refine AWp.mask [true, true] rfl ?_
        simp only [go_sem]
        refine AWp.seq fun K9 hK9 => ?_
        refine AWp.block ?_
        refine AWp.rs fun K10 hK10 => ?_
        try simp only [go_sem, hgd, tkD]
        (repeat (with_reducible refine And.intro ?_ ?_; omega))
        refine DW.pcr rfl rfl rfl rfl (tkFault_c T (l[j])) rfl rfl ?_
        try simp only [go_sem]
        refine hK10 _ _ ?_
        try clear hK10 K10
        refine AWp.mask [true, true, true] rfl ?_
        simp only [go_sem]
        refine AWp.rs fun K11 hK11 => ?_
        try simp only [go_sem]
        refine hK11 _ _ ?_
        try clear hK11 K11
        refine AWp.cond _ rfl (fun hc2 => ?_) (fun hc2 => ?_)
        · skip
          try simp only [decide_eq_false_iff_not, Bool.not_eq_true'] at hc2
          have hb2 : badT l 0 = some (j, tkE (l[j])) := by rw [h3, badT_s hlt, if_neg (by omega)]
          refine AWp.rs fun K12 hK12 => ?_
          try simp only [go_sem]
          refine hK12 _ _ ?_
          try clear hK12 K12
          refine AWp.mask [false, true, true, true] rfl ?_
          simp only [go_sem]
          refine AWp.ret ?_
          try simp only [go_sem]
          rw [par_2 (by omega) hb2]; simp [parV, LeA, LeL, LeD]
        · skip
          try simp only [decide_eq_true_eq, Bool.not_eq_false'] at hc2
          have hbt : tkE (l[j]) = 0 := by omega
          refine AWp.skip ?_
          refine blkQ_n (thenQ_n ?_)
          refine hK9 _ _ ?_
          try clear hK9 K9
          refine AWp.rk fun K13 hK13 => ?_
          try simp only [go_sem, tcast]
          (repeat (with_reducible refine And.intro ?_ ?_; omega))
          refine hK13 _ _ ?_
          try clear hK13 K13
          refine thenQ_n ?_
          refine EndS.mkr [true] [false, true] rfl ?_ ?_
          · (try simp only [go_sem]) <;> try rfl
          refine .e ⟨_, ?_, (j + 1), rfl, ?_, ?_, ?_, ?_⟩
          · first | omega | (simp; omega) | (grind)
          · (try simp only [go_sem]) <;> first | exact ⟨rfl⟩ | (constructor; simp; done)
          · (try simp only [go_sem, pob, tcast, cA, cmdA, tstA, LHd, hgd, tkD]) <;> first | exact ⟨rfl⟩ | (constructor; simp; done)
          · omega
          · rw [h3, badT_s hlt, if_pos hbt]
      · skip
        try simp only [decide_eq_false_iff_not, Int.not_lt] at hc1
        have hbad : badT l 0 = none := by rw [h3, badT_e (by omega)]
        refine AWp.exit ?_
        refine thenQ_e (thenQ_e (blkQ_e (thenQ_n ?_)))
        refine hK5 _ _ ?_
        try clear hK5 K5
        refine AWp.mask [true] rfl ?_
        simp only [go_sem]
        refine AWp.rs fun K14 hK14 => ?_
        try simp only [go_sem]
        intro b7
        first | intro fb7 | have fb7 := True.intro
        try simp only [freshL] at fb7
        refine hK14 _ _ ?_
        try clear hK14 K14
        refine AWp.rs fun K15 hK15 => ?_
        try simp only [go_sem]
        refine hK15 _ _ ?_
        try clear hK15 K15
        refine AWp.seq fun K16 hK16 => ?_
        refine AWp.rs fun K17 hK17 => ?_
        try simp only [go_sem]
        refine hK17 _ _ ?_
        try clear hK17 K17
        refine AWp.block ?_
        refine AWp.mask [true, true, true, true] rfl ?_
        simp only [go_sem]
        refine AWp.ownNilS 8 12 rfl rfl (by decide) fun w0 fw0 => ?_
        try simp only [freshT] at fw0
        simp only [go_sem]
        refine AWp.loopS [true, true] [false, false, true, true] (fun n lc hc => ∃ (j m w : Nat) (acc : List Cmd), n = 2 * m ∧ EqS lc [(8, .own w 12 (acc.map cmdD)), (9, .d (.int .i64 (j : Nat)))] ∧ EqS hc (⟨[pob b7 l 0 0], [w]⟩) ∧ (j ≤ l.length) ∧ (acc.length ≤ j) ∧ (m ≤ 100000) ∧ (progR (fuelR l) l 0 [] = progR m l j acc) ∧ (progR m l j acc ≠ .oof)) rfl ?_ ?_
        · refine ⟨_, 0, fuelR l, w0, [], rfl, ?_, ?_, ?_, ?_, ?_, ?_, ?_⟩
          · (try simp only [go_sem]) <;> first | exact ⟨rfl⟩ | (constructor; simp; done)
          · (try simp only [go_sem, pob]) <;> first | exact ⟨rfl⟩ | (constructor; simp; done)
          all_goals (first | omega | (simp; done) | rfl | (simp [fuelR]; omega) | exact prog_ne _ _ _ _ (by simp [fuelR]) (by omega))
        · rintro _ _ _ ⟨j, m, w, acc, rfl, ⟨rfl⟩, ⟨rfl⟩, h1, h2, h6, h4, h5⟩
          obtain ⟨m, rfl⟩ : ∃ m2, m = m2 + 1 := by cases m with | zero => exact absurd (by rw [progR]) h5 | succ m => exact ⟨m, rfl⟩
          simp only [go_sem]
          refine AWp.seq fun K18 hK18 => ?_
          refine AWp.rs fun K19 hK19 => ?_
          try simp only [go_sem]
          refine hK19 _ _ ?_
          try clear hK19 K19
          refine AWp.cond _ rfl (fun hc3 => ?_) (fun hc3 => ?_)
          · skip
            try simp only [decide_eq_true_eq] at hc3
            have hlt : j < l.length := by omega
            have hno2 : cmdR m l j 0 ≠ .oof := by have h9 := h5; rw [pg_t hlt] at h9; exact Rd.bind_no h9
            refine AWp.skip ?_
            refine thenQ_n ?_
            refine hK18 _ _ ?_
            try clear hK18 K18
            refine AWp.mask [true, true, true, true] rfl ?_
            simp only [go_sem]
            refine AWp.block ?_
            refine AWp.rs fun K20 hK20 => ?_
            try simp only [go_sem]
            refine DW.acp [b7] [] rfl rfl rfl rfl (by (try simp only [go_sem, pob]); rfl) rfl (pcommand_c T m (by omega) b7 l j 0 _ _ hs h1 (by decide) hno2) ?_
            rintro _ _ ⟨ax, nx, fx, ex, rfl, rfl, ubx, rx⟩
            try simp only [go_sem, pob, cA, cmdA, tstA]
            intro b10
            first | intro fb10 | have fb10 := True.intro
            try simp only [freshL] at fb10
            refine hK20 _ _ ?_
            try clear hK20 K20
            refine AWp.mask [true, true, true, false, true, true] rfl ?_
            simp only [go_sem]
            refine AWp.seq fun K21 hK21 => ?_
            refine AWp.rs fun K22 hK22 => ?_
            try simp only [go_sem, fb10]
            refine hK22 _ _ ?_
            try clear hK22 K22
            refine AWp.mask [true, true, true, true, true, false, false, false, false, true] rfl ?_
            simp only [go_sem]
            refine AWp.cond _ rfl (fun hc4 => ?_) (fun hc4 => ?_)
            · skip
              try simp only [decide_eq_false_iff_not, Bool.not_eq_true'] at hc4
              obtain ⟨i2, e2, p1, p2, p3⟩ := rx.er0 hno2 hc4
              refine AWp.ds true [0, 1, 2, 3, 4, 5, 6, 7, 8, 9, 10] rfl (by kernel_rfl) fun K23 hK23 => ?_
              try simp only [go_sem, fb10]
              refine hK23 _ _ ?_
              try clear hK23 K23
              refine AWp.mask [false, true, true, true] rfl ?_
              simp only [go_sem]
              refine AWp.ret ?_
              try simp only [go_sem]
              rw [par_3 (by omega) hbad (by rw [h4, pg_t hlt, p1, Rd.bind_er]), p2, p3]; simp [parV, LeA, LeL, LeD]
            · skip
              try simp only [decide_eq_true_eq, Bool.not_eq_false'] at hc4
              obtain ⟨p1, p2⟩ := rx.ok0 hno2 (by omega)
              have he : ex = 0 := by omega
              subst he p2
              have lx := (cmd_le m).1 _ _ _ _ _ p1
              refine AWp.skip ?_
              refine thenQ_n ?_
              refine hK21 _ _ ?_
              try clear hK21 K21
              refine AWp.rs fun K24 hK24 => ?_
              try simp only [go_sem, fb10]
              refine DW.app rfl rfl rfl rfl (show slI Tryd.prog 43 = some (91, 12, 192) by simp only [go_sem]) rfl rfl (by simp only [go_sem]) (by first | exact .inl rfl | exact .inr rfl) (by (try simp only [go_sem]); (try simp only [List.length_map, List.length_append, List.length_cons, List.length_nil]); omega) (by (try simp only [go_sem]); (try simp only [List.length_map, List.length_append, List.length_cons, List.length_nil]); omega) fun t1 ft1 => ?_
              try simp only [freshT] at ft1
              try simp only [go_sem]
              refine hK24 _ _ ?_
              try clear hK24 K24
              refine AWp.mask [true, true, true, false, true] rfl ?_
              simp only [go_sem]
              refine AWp.rk fun K25 hK25 => ?_
              try simp only [go_sem]
              refine hK25 _ _ ?_
              try clear hK25 K25
              refine blkQ_n (thenQ_n ?_)
              refine EndS.mk [true, true] [false, false, true, true] [b10] [] [b7] [t1] rfl ?_ ?_
              · (try simp only [go_sem]) <;> try rfl
              refine .e ⟨_, ?_, nx, m, t1, (acc ++ [ax]), rfl, ?_, ?_, ?_, ?_, ?_, ?_, ?_⟩
              · first | omega | (simp; omega) | (grind)
              · (try simp only [go_sem]) <;> first | exact ⟨rfl⟩ | (constructor; simp [cmdD, tstD]; done)
              · (try simp only [go_sem, fb10]) <;> first | exact ⟨rfl⟩ | (constructor; simp; done)
              · omega
              · simp; omega
              · omega
              · rw [h4, pg_t hlt, p1, Rd.bind_ok]
              · have h9 := h5; rw [pg_t hlt, p1, Rd.bind_ok] at h9; exact h9
          · skip
            try simp only [decide_eq_false_iff_not, Int.not_lt] at hc3
            refine AWp.exit ?_
            refine thenQ_e (thenQ_e (blkQ_e (thenQ_n ?_)))
            refine hK16 _ _ ?_
            try clear hK16 K16
            refine AWp.mask [false, false, true] rfl ?_
            simp only [go_sem]
            refine AWp.rs fun K26 hK26 => ?_
            try simp only [go_sem]
            refine hK26 _ _ ?_
            try clear hK26 K26
            refine AWp.ret ?_
            try simp only [go_sem]
            rw [par_4 (by omega) hbad (by rw [h4, pg_f (by omega)])]; simp [parV, LeA, LeL, LeD]
end Go.Proofs.YthpkjmbdjnelfaaDoor

namespace Go.Proofs.YthpkjmbdjnelfaaDoor
open Go.RowKit
set_option linter.unusedSimpArgs false
set_option linter.unusedVariables false
theorem tst_ok {k m p : Int} {a c : List Tx} {o : Bool} {li : Int} {ks : List Tst} (h1 : a.length ≤ 400) (h2 : c.length ≤ 400) (h3 : ks.length ≤ 400) (h4 : ∀ x ∈ ks, x.Ok) : (Tst.mk k m p a c o li ks).Ok :=
  .mk (by show a.length * 16 ≤ 140737488355328; omega) (by show c.length * 16 ≤ 140737488355328; omega) (by show ks.length * 112 ≤ 140737488355328; omega) h4
theorem cmd_ok {k : Int} {a : List Tx} {t : Tst} {x y : List Cmd} (h1 : a.length ≤ 400) (h2 : t.Ok) (h3 : x.length ≤ 400) (h4 : y.length ≤ 400) (h5 : ∀ c ∈ x, c.Ok) (h6 : ∀ c ∈ y, c.Ok) : (Cmd.mk k a t x y).Ok :=
  .mk (by show a.length * 16 ≤ 140737488355328; omega) h2 (by show x.length * 208 ≤ 140737488355328; omega) (by show y.length * 208 ≤ 140737488355328; omega) h5 h6
theorem nil_ok {α : Type} {p : α → Prop} : ∀ x ∈ ([] : List α), p x := fun x h => absurd h (List.not_mem_nil)
theorem one_ok {α : Type} {p : α → Prop} {a : α} (h : p a) : ∀ x ∈ [a], p x := fun x hx => by rw [List.mem_singleton] at hx; exact hx ▸ h
theorem snoc_ok {α : Type} {p : α → Prop} {l : List α} {a : α} (h1 : ∀ x ∈ l, p x) (h : p a) : ∀ x ∈ l ++ [a], p x := fun x hx => by
  rcases List.mem_append.1 hx with h9 | h9
  · exact h1 x h9
  · exact one_ok h x h9
theorem t0_ok : tst0.Ok := tst_ok (by simp) (by simp) (by simp) nil_ok
theorem test_ok : ∀ n, (∀ l i d x j, l.length ≤ 400 → testR n l i d = .ok x j → x.Ok) ∧ (∀ l i d k acc x j, l.length ≤ 400 → acc.length ≤ i → (∀ y ∈ acc, y.Ok) → testsR n l i d k acc = .ok x j → x.Ok)
  | 0 => ⟨fun l i d x j hl h => (by rw [testR] at h; cases h), fun l i d k acc x j hl ha hy h => (by rw [testsR] at h; cases h)⟩
  | n + 1 => by
    obtain ⟨h1, h2⟩ := test_ok n
    refine ⟨fun l i d x j hl h => ?_, fun l i d k acc x j hl ha hy h => ?_⟩
    · rw [testR] at h
      split at h
      · cases h
      obtain ⟨k, j0, hw, h⟩ := Rd.bind_inv h
      split at h
      · obtain ⟨a, j1, h3, h⟩ := Rd.bind_inv h
        injection h with h4 h5
        subst h4
        exact tst_ok (by simp) (by simp) (by simp) (one_ok (h1 _ _ _ _ _ hl h3))
      split at h
      · obtain ⟨a, j1, h3, h⟩ := Rd.bind_inv h
        obtain ⟨a2, j2, h4, h⟩ := Rd.bind_inv h
        have := (test_le n).1 _ _ _ _ _ h4
        exact h2 _ _ _ _ _ _ _ hl (by simp; omega) (one_ok (h1 _ _ _ _ _ hl h4)) h
      split at h
      · obtain ⟨a, j1, h3, h⟩ := Rd.bind_inv h
        obtain ⟨a2, j2, h4, h⟩ := Rd.bind_inv h
        have := strsR_le _ _ _ _ h4
        obtain ⟨a3, j3, h5, h⟩ := Rd.bind_inv h
        have := strsR_le _ _ _ _ h5
        injection h with h6 h7
        subst h6
        exact tst_ok (by omega) (by omega) (by simp) nil_ok
      split at h
      · obtain ⟨a, j1, h3, h⟩ := Rd.bind_inv h
        have := strsR_le _ _ _ _ h3
        injection h with h6 h7
        subst h6
        exact tst_ok (by omega) (by simp) (by simp) nil_ok
      split at h
      · split at h
        · obtain ⟨a, j1, h3, h⟩ := Rd.bind_inv h
          injection h with h6 h7
          subst h6
          exact tst_ok (by simp) (by simp) (by simp) nil_ok
        · cases h
      · injection h with h6 h7
        subst h6
        exact tst_ok (by simp) (by simp) (by simp) nil_ok
    · rw [testsR] at h
      split at h
      · obtain ⟨a, j1, h3, h⟩ := Rd.bind_inv h
        have := (test_le n).1 _ _ _ _ _ h3
        exact h2 _ _ _ _ _ _ _ hl (by simp; omega) (snoc_ok hy (h1 _ _ _ _ _ hl h3)) h
      · obtain ⟨a, j1, h3, h⟩ := Rd.bind_inv h
        obtain ⟨m1, rfl⟩ := mustR_ok h3
        have ml := isT_lt m1
        injection h with h4 h5
        subst h4
        exact tst_ok (by simp) (by simp) (by omega) hy
def OkL (l : List Cmd) : Prop := l.length ≤ 400 ∧ ∀ c ∈ l, c.Ok
theorem cmds_ok : ∀ n, (∀ l i d x j, l.length ≤ 400 → cmdR n l i d = .ok x j → x.Ok) ∧ (∀ l i d x j, l.length ≤ 400 → blockR n l i d = .ok x j → OkL x) ∧ (∀ l i d acc x j, l.length ≤ 400 → acc.length ≤ i → (∀ c ∈ acc, c.Ok) → cmdsR n l i d acc = .ok x j → OkL x) ∧ (∀ l i d x j, l.length ≤ 400 → branchR n l i d = .ok x j → x.Ok)
  | 0 => ⟨fun l i d x j hl h => (by rw [cmdR] at h; cases h), fun l i d x j hl h => (by rw [blockR] at h; cases h), fun l i d acc x j hl ha hc h => (by rw [cmdsR] at h; cases h), fun l i d x j hl h => (by rw [branchR] at h; cases h)⟩
  | n + 1 => by
    obtain ⟨h1, h2, h3, h4⟩ := cmds_ok n
    refine ⟨fun l i d x j hl h => ?_, fun l i d x j hl h => ?_, fun l i d acc x j hl ha hc h => ?_, fun l i d x j hl h => ?_⟩
    · rw [cmdR] at h
      split at h
      · cases h
      obtain ⟨k, j0, hw, h⟩ := Rd.bind_inv h
      split at h
      · exact h4 _ _ _ _ _ hl h
      split at h
      · obtain ⟨a, j1, h5, h⟩ := Rd.bind_inv h
        have := strsR_le _ _ _ _ h5
        obtain ⟨a2, j2, h6, h⟩ := Rd.bind_inv h
        injection h with h7 h8
        subst h7
        exact cmd_ok (by omega) t0_ok (by simp) (by simp) nil_ok nil_ok
      split at h
      · obtain ⟨a, j1, h5, h⟩ := Rd.bind_inv h
        obtain ⟨a2, j2, h6, h⟩ := Rd.bind_inv h
        injection h with h7 h8
        subst h7
        exact cmd_ok (by simp) t0_ok (by simp) (by simp) nil_ok nil_ok
      · obtain ⟨a2, j2, h6, h⟩ := Rd.bind_inv h
        injection h with h7 h8
        subst h7
        exact cmd_ok (by simp) t0_ok (by simp) (by simp) nil_ok nil_ok
    · rw [blockR] at h
      obtain ⟨a2, j2, h6, h⟩ := Rd.bind_inv h
      exact h3 _ _ _ _ _ _ hl (by simp) nil_ok h
    · rw [cmdsR] at h
      split at h
      · rename_i h5
        have := isT_lt h5
        injection h with h7 h8
        subst h7
        exact ⟨by omega, hc⟩
      · obtain ⟨a2, j2, h6, h⟩ := Rd.bind_inv h
        have := (cmd_le n).1 _ _ _ _ _ h6
        exact h3 _ _ _ _ _ _ hl (by simp; omega) (snoc_ok hc (h1 _ _ _ _ _ hl h6)) h
    · rw [branchR] at h
      obtain ⟨a, j1, h5, h⟩ := Rd.bind_inv h
      have ht := (test_ok n).1 _ _ _ _ _ hl h5
      obtain ⟨a2, j2, h6, h⟩ := Rd.bind_inv h
      have hb := h2 _ _ _ _ _ hl h6
      split at h
      · obtain ⟨a3, j3, h7, h⟩ := Rd.bind_inv h
        have := h4 _ _ _ _ _ hl h7
        injection h with h8 h9
        subst h8
        exact cmd_ok (by simp) ht hb.1 (by simp) hb.2 (one_ok this)
      split at h
      · obtain ⟨a3, j3, h7, h⟩ := Rd.bind_inv h
        have := h2 _ _ _ _ _ hl h7
        injection h with h8 h9
        subst h8
        exact cmd_ok (by simp) ht hb.1 this.1 hb.2 this.2
      · injection h with h8 h9
        subst h8
        exact cmd_ok (by simp) ht hb.1 (by simp) hb.2 nil_ok
theorem prog_ok : ∀ n (l : List Tk) (i : Nat) (acc : List Cmd) (x : List Cmd) (j : Nat), l.length ≤ 400 → i ≤ l.length → acc.length ≤ i → (∀ c ∈ acc, c.Ok) → progR n l i acc = .ok x j → OkL x
  | 0, l, i, acc, x, j, hl, hi, ha, hc, h => by rw [progR] at h; cases h
  | n + 1, l, i, acc, x, j, hl, hi, ha, hc, h => by
    rcases Nat.lt_or_ge i l.length with h9 | h9
    · rw [pg_t h9] at h
      obtain ⟨c, j1, h6, h⟩ := Rd.bind_inv h
      have := (cmd_le n).1 _ _ _ _ _ h6
      exact prog_ok n l j1 _ x j hl (by omega) (by simp; omega) (snoc_ok hc ((cmds_ok n).1 _ _ _ _ _ hl h6)) h
    · rw [pg_f (by omega)] at h
      injection h with h7 h8
      subst h7
      exact ⟨by omega, hc⟩
end Go.Proofs.YthpkjmbdjnelfaaDoor

namespace Go.Proofs.YthpkjmbdjnelfaaDoor
set_option linter.unusedSimpArgs false
set_option linter.unusedVariables false
theorem parR_ok (l : List Tk) : (parR l).1.length * 208 ≤ 140737488355328 ∧ ∀ x ∈ (parR l).1, x.Ok := by
  by_cases h1 : 400 < l.length
  · rw [par_1 h1]; exact ⟨by simp, nil_ok⟩
  · cases h2 : badT l 0 with
    | some p => obtain ⟨i, e⟩ := p; rw [par_2 h1 h2]; exact ⟨by simp, nil_ok⟩
    | none =>
      cases h3 : progR (fuelR l) l 0 [] with
      | ok cs i =>
        rw [par_4 h1 h2 h3]
        have := prog_ok _ l 0 [] cs i (by omega) (by omega) (by simp) nil_ok h3
        exact ⟨by have := this.1; show cs.length * 208 ≤ 140737488355328; omega, this.2⟩
      | err i e => rw [par_3 h1 h2 h3]; exact ⟨by simp, nil_ok⟩
      | oof => exact absurd h3 (prog_ne _ _ _ _ (by simp [fuelR]) (by omega))
theorem Parse_c (T : Tbl) (hS : ScT T) (l : List Tk) : PC Tryd.prog T 18 [.d (.slc 3 (tksD l))] (parV (parR l)) := PC.of_ac (Parse_a T hS l) (by simp [parV, LeA, LeL, LeD])
set_option maxRecDepth 4000 in
set_option maxHeartbeats 1000000 in
theorem tokensB_c (T : Tbl) (l : List Tk) (hl : l.length * 32 ≤ 140737488355328) : PC Tryd.prog T 14 [.d (.slc 3 (tksD l))] (.d (.slc 3 (tksD l))) := by
  refine ⟨Tryd.call14, PCall.enterS Tryd.func14 rfl Tryd.ntmps14 rfl fun hb => ?_⟩
  simp only [go_sem, Tryd.results14]
  refine AWp.rs fun K1 hK1 => ?_
  try simp only [go_sem]
  (repeat (with_reducible refine And.intro ?_ ?_; (first | omega | (intro _; omega) | decide | (exact nfB) | (intro _; exact nfB) | (intro hg; refine ⟨hg, ?_⟩; omega) | (simp; done) | (simp; omega) | (intro hg; simp at hg; done) | (intro hg; simp at hg ⊢; first | omega | exact hg | grind))))
  refine hK1 _ _ ?_
  try clear hK1 K1
  refine AWp.rs fun K2 hK2 => ?_
  try simp only [go_sem]
  (repeat (with_reducible refine And.intro ?_ ?_; (first | omega | (intro _; omega) | decide | (exact nfB) | (intro _; exact nfB) | (intro hg; refine ⟨hg, ?_⟩; omega) | (simp; done) | (simp; omega) | (intro hg; simp at hg; done) | (intro hg; simp at hg ⊢; first | omega | exact hg | grind))))
  refine DW.appNil rfl rfl rfl rfl (show slI Tryd.prog 37 = some (70, 3, 32) by simp only [go_sem]) rfl rfl (by first | exact .inl rfl | exact .inr rfl) (by (try simp only [go_sem, tksD_len]); omega) (by (try simp only [go_sem, tksD_len]); omega) fun t1 ft1 => ?_
  try simp only [freshT] at ft1
  try simp only [go_sem, ft1]
  (repeat (with_reducible refine And.intro ?_ ?_; (first | omega | (intro _; omega) | decide | (exact nfB) | (intro _; exact nfB) | (intro hg; refine ⟨hg, ?_⟩; omega) | (simp; done) | (simp; omega) | (intro hg; simp at hg; done) | (intro hg; simp at hg ⊢; first | omega | exact hg | grind))))
  refine hK2 _ _ ?_
  try clear hK2 K2
  refine AWp.ret ?_
  try simp only [go_sem, ft1]
  try simp [LeA, LeL, LeD]
set_option maxRecDepth 4000 in
set_option maxHeartbeats 1000000 in
theorem sameTokensB_c (T : Tbl) (l : List Tk) (hl : l.length * 32 ≤ 140737488355328) : PC Tryd.prog T 17 [.d (.slc 3 (tksD l)), .d (.slc 3 (tksD l))] (.d (.bool true)) := by
  refine ⟨Tryd.call17, PCall.enterS Tryd.func17 rfl Tryd.ntmps17 rfl fun hb => ?_⟩
  simp only [go_sem, Tryd.results17]
  refine AWp.rs fun K1 hK1 => ?_
  try simp only [go_sem, tcast, tkD]
  (repeat (with_reducible refine And.intro ?_ ?_; (first | omega | (intro _; omega) | decide | (exact nfB) | (intro _; exact nfB) | (intro hg; refine ⟨hg, ?_⟩; omega) | (simp; done) | (simp; omega) | (intro hg; simp at hg; done) | (intro hg; simp at hg ⊢; first | omega | exact hg | grind))))
  refine hK1 _ _ ?_
  try clear hK1 K1
  refine AWp.seq fun K2 hK2 => ?_
  refine AWp.rs fun K3 hK3 => ?_
  try simp only [go_sem, tcast, tkD]
  (repeat (with_reducible refine And.intro ?_ ?_; (first | omega | (intro _; omega) | decide | (exact nfB) | (intro _; exact nfB) | (intro hg; refine ⟨hg, ?_⟩; omega) | (simp; done) | (simp; omega) | (intro hg; simp at hg; done) | (intro hg; simp at hg ⊢; first | omega | exact hg | grind))))
  refine hK3 _ _ ?_
  try clear hK3 K3
  refine AWp.mask [true, true, false, false, false, false, false, true] rfl ?_
  simp only [go_sem]
  refine AWp.cond _ rfl (fun hc0 => ?_) (fun hc0 => ?_)
  · skip
    exact absurd hc0 (by simp)
  · skip
    try simp only [decide_eq_true_eq, decide_eq_false_iff_not, Bool.not_eq_true', Bool.not_eq_false', Bool.and_eq_true, Bool.or_eq_true, Bool.and_eq_false_iff, Bool.or_eq_false_iff, Int.not_lt, Int.not_le, beq_iff_eq, beq_eq_false_iff_ne, ne_eq, Bool.not_eq_true, Bool.not_eq_false] at hc0
    refine AWp.skip ?_
    refine thenQ_n ?_
    refine hK2 _ _ ?_
    try clear hK2 K2
    refine AWp.seq fun K4 hK4 => ?_
    refine AWp.rs fun K5 hK5 => ?_
    try simp only [go_sem, tcast, tkD]
    (repeat (with_reducible refine And.intro ?_ ?_; (first | omega | (intro _; omega) | decide | (exact nfB) | (intro _; exact nfB) | (intro hg; refine ⟨hg, ?_⟩; omega) | (simp; done) | (simp; omega) | (intro hg; simp at hg; done) | (intro hg; simp at hg ⊢; first | omega | exact hg | grind))))
    refine hK5 _ _ ?_
    try clear hK5 K5
    refine AWp.block ?_
    refine AWp.mask [true, true, true] rfl ?_
    simp only [go_sem]
    refine AWp.loopS [true, true] [false, false, true] (fun n lc hc => ∃ (k : Nat), n = l.length - k ∧ EqS lc [(5, .d (.int .i64 k))] ∧ EqS hc (⟨[], []⟩) ∧ (k ≤ l.length)) rfl ?_ ?_
    · refine ⟨_, 0, rfl, ?_, ?_, ?_⟩
      · (try simp only [go_sem, tcast, tkD]) <;> first | exact ⟨rfl⟩ | (constructor; simp; done)
      · (try simp only [go_sem, tcast, tkD]) <;> first | exact ⟨rfl⟩ | (constructor; simp; done)
      all_goals (first | omega | rfl | (simp; done) | (simp; omega) | assumption)
    · rintro _ _ _ ⟨k, rfl, ⟨rfl⟩, ⟨rfl⟩, h1⟩
      simp only [go_sem]
      refine AWp.seq fun K6 hK6 => ?_
      refine AWp.rs fun K7 hK7 => ?_
      try simp only [go_sem, tcast, tkD]
      (repeat (with_reducible refine And.intro ?_ ?_; (first | omega | (intro _; omega) | decide | (exact nfB) | (intro _; exact nfB) | (intro hg; refine ⟨hg, ?_⟩; omega) | (simp; done) | (simp; omega) | (intro hg; simp at hg; done) | (intro hg; simp at hg ⊢; first | omega | exact hg | grind))))
      refine hK7 _ _ ?_
      try clear hK7 K7
      refine AWp.cond _ rfl (fun hc1 => ?_) (fun hc1 => ?_)
      · skip
        try simp only [decide_eq_true_eq, decide_eq_false_iff_not, Bool.not_eq_true', Bool.not_eq_false', Bool.and_eq_true, Bool.or_eq_true, Bool.and_eq_false_iff, Bool.or_eq_false_iff, Int.not_lt, Int.not_le, beq_iff_eq, beq_eq_false_iff_ne, ne_eq, Bool.not_eq_true, Bool.not_eq_false] at hc1
        have hlt : k < l.length := by omega
        have hki : (k : Int) < (l.length : Int) := by omega
        refine AWp.skip ?_
        refine thenQ_n ?_
        refine hK6 _ _ ?_
        try clear hK6 K6
        refine AWp.mask [true, true, true] rfl ?_
        simp only [go_sem]
        refine AWp.seq fun K8 hK8 => ?_
        refine AWp.block ?_
        refine AWp.ds true [0, 1, 2, 3, 4, 5, 6, 7, 8] rfl (by kernel_rfl) fun K9 hK9 => ?_
        try simp only [go_sem, tcast, tkD, tksD_get l k _ hlt, hki]
        (repeat (with_reducible refine And.intro ?_ ?_; (first | omega | (intro _; omega) | decide | (exact nfB) | (intro _; exact nfB) | (intro hg; refine ⟨hg, ?_⟩; omega) | (simp; done) | (simp; omega) | (intro hg; simp at hg; done) | (intro hg; simp at hg ⊢; first | omega | exact hg | grind))))
        refine hK9 _ _ ?_
        try clear hK9 K9
        refine AWp.mask [true, true, true, false, false, false, false, false, false, false, false, true] rfl ?_
        simp only [go_sem]
        refine AWp.cond _ rfl (fun hc2 => ?_) (fun hc2 => ?_)
        · skip
          exact absurd hc2 (by simp)
        · skip
          try simp only [decide_eq_true_eq, decide_eq_false_iff_not, Bool.not_eq_true', Bool.not_eq_false', Bool.and_eq_true, Bool.or_eq_true, Bool.and_eq_false_iff, Bool.or_eq_false_iff, Int.not_lt, Int.not_le, beq_iff_eq, beq_eq_false_iff_ne, ne_eq, Bool.not_eq_true, Bool.not_eq_false] at hc2
          refine AWp.skip ?_
          refine blkQ_n (thenQ_n ?_)
          refine hK8 _ _ ?_
          try clear hK8 K8
          refine AWp.rk fun K10 hK10 => ?_
          try simp only [go_sem, tcast, tkD, tksD_get l k _ hlt, hki]
          (repeat (with_reducible refine And.intro ?_ ?_; (first | omega | (intro _; omega) | decide | (exact nfB) | (intro _; exact nfB) | (intro hg; refine ⟨hg, ?_⟩; omega) | (simp; done) | (simp; omega) | (intro hg; simp at hg; done) | (intro hg; simp at hg ⊢; first | omega | exact hg | grind))))
          refine hK10 _ _ ?_
          try clear hK10 K10
          refine thenQ_n ?_
          refine EndS.mkr [true, true] [false, false, true] rfl ?_ ?_
          · (try simp only [go_sem, tcast, tkD, tksD_get l k _ hlt, hki]) <;> try rfl
          refine .e ⟨_, ?_, k + 1, rfl, ?_, ?_, ?_⟩
          · first | omega | (simp; omega) | (grind)
          · (try simp only [go_sem, tcast, tkD, tksD_get l k _ hlt, hki]) <;> first | exact ⟨rfl⟩ | (constructor; simp; done)
          · (try simp only [go_sem, tcast, tkD, tksD_get l k _ hlt, hki]) <;> first | exact ⟨rfl⟩ | (constructor; simp; done)
          all_goals (first | omega | assumption | grind)
      · skip
        try simp only [decide_eq_true_eq, decide_eq_false_iff_not, Bool.not_eq_true', Bool.not_eq_false', Bool.and_eq_true, Bool.or_eq_true, Bool.and_eq_false_iff, Bool.or_eq_false_iff, Int.not_lt, Int.not_le, beq_iff_eq, beq_eq_false_iff_ne, ne_eq, Bool.not_eq_true, Bool.not_eq_false] at hc1
        refine AWp.exit ?_
        refine thenQ_e (thenQ_e (blkQ_e (thenQ_n ?_)))
        refine hK4 _ _ ?_
        try clear hK4 K4
        refine AWp.mask [] rfl ?_
        simp only [go_sem]
        refine AWp.rs fun K11 hK11 => ?_
        try simp only [go_sem, tcast, tkD]
        (repeat (with_reducible refine And.intro ?_ ?_; (first | omega | (intro _; omega) | decide | (exact nfB) | (intro _; exact nfB) | (intro hg; refine ⟨hg, ?_⟩; omega) | (simp; done) | (simp; omega) | (intro hg; simp at hg; done) | (intro hg; simp at hg ⊢; first | omega | exact hg | grind))))
        refine hK11 _ _ ?_
        try clear hK11 K11
        refine AWp.ret ?_
        try simp only [go_sem, tcast, tkD]
        try simp [LeA, LeL, LeD]
set_option maxRecDepth 4000 in
set_option maxHeartbeats 1000000 in
theorem scriptParses_c (T : Tbl) (hS : ScT T) (l : List Tk) (hl : l.length * 32 ≤ 140737488355328) : PC Tryd.prog T 5 [.d (.slc 3 (tksD l))] (.d (.bool true)) := by
  refine ⟨Tryd.call5, PCall.enterS Tryd.func5 rfl Tryd.ntmps5 rfl fun hb => ?_⟩
  obtain ⟨ok1, ok2⟩ := parR_ok l
  simp only [go_sem, Tryd.results5]
  refine AWp.rs fun K1 hK1 => ?_
  try simp only [go_sem, parV, decide_true, Bool.true_and]
  (repeat (with_reducible refine And.intro ?_ ?_; (first | omega | (intro _; omega) | decide | (exact nfB) | (intro _; exact nfB) | (intro hg; refine ⟨hg, ?_⟩; omega) | (simp; done) | (simp; omega) | (intro hg; simp at hg; done) | (intro hg; simp at hg ⊢; first | omega | exact hg | grind))))
  refine hK1 _ _ ?_
  try clear hK1 K1
  refine AWp.rs fun K2 hK2 => ?_
  try simp only [go_sem, parV, decide_true, Bool.true_and]
  (repeat (with_reducible refine And.intro ?_ ?_; (first | omega | (intro _; omega) | decide | (exact nfB) | (intro _; exact nfB) | (intro hg; refine ⟨hg, ?_⟩; omega) | (simp; done) | (simp; omega) | (intro hg; simp at hg; done) | (intro hg; simp at hg ⊢; first | omega | exact hg | grind))))
  refine DW.pcr rfl rfl rfl rfl (tokensB_c T _ hl) rfl rfl ?_
  try simp only [go_sem, parV, decide_true, Bool.true_and]
  (repeat (with_reducible refine And.intro ?_ ?_; (first | omega | (intro _; omega) | decide | (exact nfB) | (intro _; exact nfB) | (intro hg; refine ⟨hg, ?_⟩; omega) | (simp; done) | (simp; omega) | (intro hg; simp at hg; done) | (intro hg; simp at hg ⊢; first | omega | exact hg | grind))))
  refine hK2 _ _ ?_
  try clear hK2 K2
  refine AWp.rs fun K3 hK3 => ?_
  try simp only [go_sem, parV, decide_true, Bool.true_and]
  (repeat (with_reducible refine And.intro ?_ ?_; (first | omega | (intro _; omega) | decide | (exact nfB) | (intro _; exact nfB) | (intro hg; refine ⟨hg, ?_⟩; omega) | (simp; done) | (simp; omega) | (intro hg; simp at hg; done) | (intro hg; simp at hg ⊢; first | omega | exact hg | grind))))
  refine DW.pcr rfl rfl rfl rfl (Parse_c T hS l) rfl rfl ?_
  try simp only [go_sem, parV, decide_true, Bool.true_and]
  (repeat (with_reducible refine And.intro ?_ ?_; (first | omega | (intro _; omega) | decide | (exact nfB) | (intro _; exact nfB) | (intro hg; refine ⟨hg, ?_⟩; omega) | (simp; done) | (simp; omega) | (intro hg; simp at hg; done) | (intro hg; simp at hg ⊢; first | omega | exact hg | grind))))
  refine hK3 _ _ ?_
  try clear hK3 K3
  refine AWp.mask [true, false, true, true, true, true] rfl ?_
  simp only [go_sem]
  refine AWp.rs fun K4 hK4 => ?_
  try simp only [go_sem, parV, decide_true, Bool.true_and]
  (repeat (with_reducible refine And.intro ?_ ?_; (first | omega | (intro _; omega) | decide | (exact nfB) | (intro _; exact nfB) | (intro hg; refine ⟨hg, ?_⟩; omega) | (simp; done) | (simp; omega) | (intro hg; simp at hg; done) | (intro hg; simp at hg ⊢; first | omega | exact hg | grind))))
  refine DW.pcr rfl rfl rfl rfl (CommandsOf_c T l) rfl rfl ?_
  try simp only [go_sem, parV, decide_true, Bool.true_and]
  (repeat (with_reducible refine And.intro ?_ ?_; (first | omega | (intro _; omega) | decide | (exact nfB) | (intro _; exact nfB) | (intro hg; refine ⟨hg, ?_⟩; omega) | (simp; done) | (simp; omega) | (intro hg; simp at hg; done) | (intro hg; simp at hg ⊢; first | omega | exact hg | grind))))
  refine hK4 _ _ ?_
  try clear hK4 K4
  refine AWp.mask [true, true, true, true, true, true, true, true] rfl ?_
  simp only [go_sem]
  refine AWp.rs fun K5 hK5 => ?_
  try simp only [go_sem, parV, decide_true, Bool.true_and]
  (repeat (with_reducible refine And.intro ?_ ?_; (first | omega | (intro _; omega) | decide | (exact nfB) | (intro _; exact nfB) | (intro hg; refine ⟨hg, ?_⟩; omega) | (simp; done) | (simp; omega) | (intro hg; simp at hg; done) | (intro hg; simp at hg ⊢; first | omega | exact hg | grind))))
  refine DW.pcgr rfl rfl rfl rfl rfl (fun hg => sameCommands_c T _ ok1 ok2) (fun hg => by (try simp only [go_sem, parV, decide_true, Bool.true_and]) <;> first | exact hg | (exfalso; simp at hg; done) | (simpa using hg) | grind) rfl rfl ?_
  try simp only [go_sem, parV, decide_true, Bool.true_and]
  (repeat (with_reducible refine And.intro ?_ ?_; (first | omega | (intro _; omega) | decide | (exact nfB) | (intro _; exact nfB) | (intro hg; refine ⟨hg, ?_⟩; omega) | (simp; done) | (simp; omega) | (intro hg; simp at hg; done) | (intro hg; simp at hg ⊢; first | omega | exact hg | grind))))
  refine DW.pcgr rfl rfl rfl rfl rfl (fun hg => sameTokensB_c T _ hl) (fun hg => by (try simp only [go_sem, parV, decide_true, Bool.true_and]) <;> first | exact hg | (exfalso; simp at hg; done) | (simpa using hg) | grind) rfl rfl ?_
  try simp only [go_sem, parV, decide_true, Bool.true_and]
  (repeat (with_reducible refine And.intro ?_ ?_; (first | omega | (intro _; omega) | decide | (exact nfB) | (intro _; exact nfB) | (intro hg; refine ⟨hg, ?_⟩; omega) | (simp; done) | (simp; omega) | (intro hg; simp at hg; done) | (intro hg; simp at hg ⊢; first | omega | exact hg | grind))))
  refine hK5 _ _ ?_
  try clear hK5 K5
  refine AWp.mask [false, true] rfl ?_
  simp only [go_sem]
  refine AWp.ret ?_
  try simp only [go_sem, parV, decide_true, Bool.true_and]
  try simp [LeA, LeD]
end Go.Proofs.YthpkjmbdjnelfaaDoor

namespace Go.Proofs.YthpkjmbdjnelfaaDoor
open Go.RowKit Go.ChangeShapes Go.WideShapes Go.ChangeAt
set_option linter.unusedSimpArgs false
set_option linter.unusedVariables false
open Go.ChangeShapes Go.WideShapes Go.ChangeAt
set_option maxRecDepth 100000
theorem tab_ok {W : World} {g : Nat} {zs : List Tx} (h : TextsAt W g zs) (hz : zs.all (fun z => Nat.ble z.length 4096) = true) : ∀ (j : Nat) (x : D), (zs.map D.str)[j]? = some x → ∃ u, frzW W g j = some u ∧ VD (frzW W) x u := fun j x hx => by
  rw [List.getElem?_map] at hx
  obtain ⟨z, hz1, rfl⟩ := Option.map_eq_some_iff.1 hx
  have := List.all_eq_true.1 hz z (List.mem_of_getElem? hz1)
  have hb := Nat.le_of_ble_eq_true this
  have hm : (4096 : Nat) ≤ maxLen := by decide
  exact ⟨_, h j z hz1, VD.bstr z (by omega)⟩
def scriptT : Tbl := fun g => if g = 1 then cmT.map D.str else if g = 2 then tsT.map D.str else if g = 6 then mtT.map D.str else if g = 7 then ptT.map D.str else []
theorem scriptT_tabs : ScT scriptT := ⟨rfl, rfl, rfl, rfl⟩
theorem scriptT_ok {W : World} (h1 : TextsAt W 1 cmT) (h2 : TextsAt W 2 tsT) (h3 : TextsAt W 6 mtT) (h4 : TextsAt W 7 ptT) :
    ∀ g j x, (scriptT g)[j]? = some x → ∃ u, frzW W g j = some u ∧ VD (frzW W) x u := fun g j x hx => by
  unfold scriptT at hx
  split at hx
  · rename_i hg; subst hg; exact tab_ok h1 (by decide) j x hx
  · split at hx
    · rename_i hg; subst hg; exact tab_ok h2 (by decide) j x hx
    · split at hx
      · rename_i hg; subst hg; exact tab_ok h3 (by decide) j x hx
      · split at hx
        · rename_i hg; subst hg; exact tab_ok h4 (by decide) j x hx
        · simp at hx
section
variable {H : Type} {enc : TypeId × Value → H} {W : World}
theorem dec_tk (f : Nat) : Dec enc Tryd.prog W tkD (fun t : Tk => t.text.length + 1) 70 f := by
  cases f with
  | zero => exact .zero
  | succ f =>
    have hi : Dec enc Tryd.prog W (fun n : Int => [.int .i64 n]) (fun _ => 1) 3 f := Dec.int Tryd.underlying3
    have hs : Dec enc Tryd.prog W (fun s : List UInt8 => [.str s]) (fun s => s.length + 1) 9 f := Dec.str Tryd.underlying9
    exact (Dec.struct Tryd.underlying70 (by kernel_rfl) (.cons (k := 1) hi (by kernel_rfl) rfl (.cons (k := 1) hs (by kernel_rfl) rfl (.cons (k := 1) hi (by kernel_rfl) rfl .nil)))).map
        (fun (p : Int × (Tx × (Int × Unit))) => Tk.mk p.1 p.2.1 p.2.2.1) (fun p => rfl) (fun p => by dsimp only; omega)
theorem dec_tks (f : Nat) : DecR enc Tryd.prog W (fun l : List Tk => [.slc 3 (l.map tkD)]) (RL fun _ _ => True) 37 f := by
  cases f with
  | zero => exact DecR.zero
  | succ f => exact DecR.slc (DecR.any (dec_tk f)) Tryd.underlying37 (by kernel_rfl) (fun _ => rfl) (by decide)
theorem rl_len {α : Type} {R : α → DataW H → Prop} {l : List α} {z : DataW H} {t e n : Nat} (h : RL R l z) (hu : Tryd.prog.underlying t = some (.slice e)) (hs : Small Tryd.prog t z) (hn : Tryd.prog.bytesOf e = n) : l.length * n ≤ 140737488355328 := by
  cases h with
  | nil => simp
  | slice _ elems spare hl _ =>
    have := Small.row hu hs
    rw [hn, Nat.add_mul, ← hl] at this
    omega
end
theorem cells_one {v : Value} {d : D} {F : Frz} (h : VDs F [d] v.cells.toList) (hv : v.oneCell' = true) : VD F d v := by
  obtain ⟨u, h1, h2⟩ := h.2 0 d rfl
  have : v.cells.toList = [v] := by cases v <;> first | rfl | (simp [Value.oneCell'] at hv)
  rw [this] at h1
  injection h1 with h1
  rw [h1]; exact h2
theorem scriptParses_run {H : Type} {enc : TypeId × Value → H} (W : World) (base : Nat) (v0 : Value) (d0 : DataW H) (p0 : List MemPlace)
    (k0 : Value.okWide Tryd.prog W .any base 37 v0) (h0 : DataW.Trod enc Tryd.prog W 0 (fun _ => true) true 37 v0 d0 p0) (s0 : Small Tryd.prog 37 d0)
    (hL : laidMetH Tryd.prog Rows.scriptParsesRow.laid W) (hsh : W.ShapedOpen Tryd.prog) :
    Calls Tryd.prog 5 #[v0] W fun e W' => e = .returned (.bool true) ∧ Below W.heap.size W W' := by
  obtain ⟨a, n, c, rfl⟩ := okWide_slice Tryd.underlying37 k0
  obtain ⟨l, hx, hr⟩ := DecR.open_ dec_tks h0
  have hlen := rl_len (n := 32) hr Tryd.underlying37 s0 (by kernel_rfl)
  obtain ⟨q1, _⟩ := texts_of_laid (zs := cmT) (g := 1) (name := "postroom/script.commands") (by kernel_rfl) (by kernel_rfl) Tryd.underlying138 Tryd.underlying9 (by kernel_rfl) (by kernel_rfl) (List.mem_cons_self ..) (by kernel_rfl) hL
  obtain ⟨q2, _⟩ := texts_of_laid (zs := tsT) (g := 2) (name := "postroom/script.tests") (by kernel_rfl) (by kernel_rfl) Tryd.underlying138 Tryd.underlying9 (by kernel_rfl) (by kernel_rfl) (List.mem_cons_of_mem _ (List.mem_cons_self ..)) (by kernel_rfl) hL
  obtain ⟨q3, _⟩ := texts_of_laid (zs := mtT) (g := 6) (name := "postroom/script.matches") (by kernel_rfl) (by kernel_rfl) Tryd.underlying105 Tryd.underlying9 (by kernel_rfl) (by kernel_rfl) (List.mem_cons_of_mem _ (List.mem_cons_of_mem _ (List.mem_cons_self ..))) (by kernel_rfl) hL
  obtain ⟨q4, _⟩ := texts_of_laid (zs := ptT) (g := 7) (name := "postroom/script.parts") (by kernel_rfl) (by kernel_rfl) Tryd.underlying105 Tryd.underlying9 (by kernel_rfl) (by kernel_rfl) (List.mem_cons_of_mem _ (List.mem_cons_of_mem _ (List.mem_cons_of_mem _ (List.mem_cons_self ..)))) (by kernel_rfl) hL
  refine law_calls (T := scriptT) (scriptParses_c scriptT scriptT_tabs l hlen) (scriptT_ok q1 q2 q3 q4) ⟨rfl, fun i x hi => ?_⟩
  match i, hi with
  | 0, hi =>
    simp at hi
    subst hi
    exact ⟨_, rfl, .d (cells_one hx rfl)⟩
  | i + 1, hi => simp at hi
end Go.Proofs.YthpkjmbdjnelfaaDoor

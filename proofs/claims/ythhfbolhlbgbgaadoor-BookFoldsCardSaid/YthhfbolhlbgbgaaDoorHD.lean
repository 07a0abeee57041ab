/- Texts that the laws rest on, packed. -/
import Derived.Test.YthhfbolhlbgbgaaDoorHC
import Derived.Test.YthhfbolhlbgbgaaDoorGC
namespace Go.Proofs.YthhfbolhlbgbgaaDoor
set_option linter.unusedSimpArgs false
set_option linter.unusedVariables false
theorem copy_cr (T : Tbl) (s : St) (hb : s.boxes.length ≤ 1000) (hm : ∀ y ∈ s.boxes, y.mails.length ≤ 1000) (hs : s.spool.length ≤ 1000) (A F : List (Nat × Ob)) (L : List Nat) : AC Tryd.prog T 69 [.agg (stateA s)] ⟨A ++ F, L⟩ (fun r h => ∃ (l : List BM) (bb cb u : Nat), bmB l = s.boxes ∧ (cb = 0 → l = []) ∧ freshT u L ∧ r = .ret (.agg [mA bb 3 cb l.length, .own u 6 (entsD s.spool)]) ∧ h = ⟨A ++ mO bb 3 cb (bmRows l) (mObjs l F), u :: L⟩) :=
  (copy_c T s hb hm hs (A ++ F) L).leR fun x h' ⟨l, bb, cb, u, h1, h2, h3, h4, h5⟩ => ⟨_, by rw [h5]; exact LeH.pm (permD A ..), l, bb, cb, u, h1, h2, h3, h4, rfl⟩
theorem InvS.b {s : St} (h : InvS s) : StB s := by
  have := bytesB_I s.boxes h.al
  have := h.bx
  exact ⟨by omega, fun y hy => Nat.le_trans (h.al y hy).1 (by decide), by omega⟩
theorem AWp.iceB1 {P : Program} {T : Tbl} {Q : AQ} {sl : List AV} {code : Code} {L : List Nat} {F : List (Nat × Ob)} {b7 bb cb n : Nat} {l : List BM} {v : AV} (A : List (Nat × Ob)) (h0 : 0 < cb) (hn : n = l.length) (H : AWp P T code Q sl ⟨(b7, ⟨2, 1, [[.d (.slc 3 (boxesD (bmB l))), v]]⟩) :: (A ++ F), L⟩) : AWp P T code Q sl ⟨(b7, ⟨2, 1, [[.arr bb 3 n cb, v]]⟩) :: (A ++ (bb, ⟨3, cb, bmRows l⟩) :: mObjs l F), L⟩ := by
  subst hn
  have := AWp.iceB (bb := bb) A (fun e => absurd e (Nat.ne_of_gt h0)) H
  rwa [mA_pos h0, mO_pos h0] at this
theorem nd6 {x a b c d e : Nat} {o oa ob oc od oe : Ob} {F : List (Nat × Ob)} (h : (List.map Prod.fst ((x, o) :: (a, oa) :: (b, ob) :: (c, oc) :: (d, od) :: (e, oe) :: F)).Nodup) : x ≠ a ∧ x ≠ b ∧ x ≠ c ∧ x ≠ d ∧ x ≠ e := by
  simp only [List.map_cons, List.nodup_cons, List.mem_cons, not_or] at h
  exact ⟨h.1.1, h.1.2.1, h.1.2.2.1, h.1.2.2.2.1, h.1.2.2.2.2.1⟩
theorem nd5 {x a b c d : Nat} {o oa ob oc od : Ob} {F : List (Nat × Ob)} (h : (List.map Prod.fst ((a, oa) :: (b, ob) :: (c, oc) :: (d, od) :: (x, o) :: F)).Nodup) : a ≠ x ∧ b ≠ x ∧ c ≠ x ∧ d ≠ x := by
  simp only [List.map_cons, List.nodup_cons, List.mem_cons, not_or] at h
  exact ⟨h.1.2.2.2.1, h.2.1.2.2.1, h.2.2.1.2.1, h.2.2.2.1.1⟩
set_option maxRecDepth 4000 in
set_option maxHeartbeats 1000000 in
theorem put_c (T : Tbl) (s : St) (i : Nat) (fl : Int) (tx : Tx) (inv : InvS s) (hi : i < s.boxes.length) (htx : tx.length ≤ 2000) (F : List (Nat × Ob)) (L : List Nat) : AC Tryd.prog T 105 [.agg (stateA s), .d (.int .i64 (i : Nat)), .d (.int .i64 fl), .d (.str tx)] (⟨F, L⟩) (fun r h => r = .ret (.tup [.agg (stateA ⟨(addS s.boxes i fl tx).1, s.spool⟩), .d (.int .i64 ((addS s.boxes i fl tx).2))]) ∧ h = ⟨F, L⟩) := by
  refine ⟨Tryd.call105, ACalls.enterS Tryd.func105 rfl Tryd.ntmps105 rfl fun hb => ?_⟩
  have hI := inv.al _ (List.getElem_mem hi)
  have hI1 := hI.1
  have hI2 := hI.2.1
  have hgi : s.boxes[i]? = some (s.boxes[i]'hi) := List.getElem?_eq_getElem hi
  have hby := inv.b.by_
  have hii : (i : Int) < (s.boxes.length : Int) := by omega
  simp only [go_sem, Tryd.results105]
  refine AWp.rs fun K1 hK1 => ?_
  try simp only [go_sem]
  intro b4
  first | intro fb4 | have fb4 := True.intro
  try simp only [freshL] at fb4
  intro b8
  first | intro fb8 | have fb8 := True.intro
  try simp only [freshL] at fb8
  refine hK1 _ _ ?_
  try clear hK1 K1
  refine AWp.rs fun K2 hK2 => ?_
  try simp only [go_sem, boxesD_get s.boxes i _ hi, boxD, fb8]
  (repeat (with_reducible refine And.intro ?_ ?_; omega))
  intro b10
  first | intro fb10 | have fb10 := True.intro
  try simp only [freshL] at fb10
  refine hK2 _ _ ?_
  try clear hK2 K2
  refine AWp.mask [false, true, true, true, true, true, false, true] rfl ?_
  simp only [go_sem]
  refine AWp.seq fun K3 hK3 => ?_
  refine AWp.rs fun K4 hK4 => ?_
  try simp only [go_sem, mailsD_len, fb8, fb10]
  (repeat (with_reducible refine And.intro ?_ ?_; (exact nfB)))
  refine DW.pcgr rfl rfl rfl rfl rfl (fun hg => BytesOf_c T s inv.b) (fun hg => by (try simp only [go_sem]) <;> first | exact hg | (exfalso; simp at hg; done) | (simpa using hg) | grind) rfl rfl ?_
  try simp only [go_sem]
  (repeat (with_reducible refine And.intro ?_ ?_; (first | (exact nfB) | (intro hg; refine ⟨hg, ?_⟩; omega))))
  refine hK4 _ _ ?_
  try clear hK4 K4
  refine AWp.mask [true, true, true, true, true, true, false, false, false, false, false, false, false, false, false, false, false, false, false, false, false, false, true] rfl ?_
  simp only [go_sem]
  refine AWp.cond _ rfl (fun hc0 => ?_) (fun hc0 => ?_)
  · skip
    try simp only [decide_eq_true_eq, Bool.or_eq_true] at hc0
    refine AWp.rs fun K5 hK5 => ?_
    try simp only [go_sem, fb8, fb10]
    refine hK5 _ _ ?_
    try clear hK5 K5
    refine AWp.mask [false, false, false, false, true, true] rfl ?_
    simp only [go_sem]
    refine AWp.ret ?_
    try simp only [thenQ]
    apply endW_r [b4, b8, b10] [] [] [] (by (try simp only [go_sem, fb8, fb10]); rfl)
    · exact ⟨rfl, by simp [go_sem]⟩
    · rw [addS_5 hgi (by omega)]; simp [LeA, LeL, LeD, boxesD, entsD]
  · skip
    try simp only [decide_eq_false_iff_not, Bool.or_eq_false_iff, Int.not_lt, Int.not_le] at hc0
    refine AWp.skip ?_
    refine thenQ_n ?_
    refine hK3 _ _ ?_
    try clear hK3 K3
    refine AWp.rs fun K6 hK6 => ?_
    try simp only [go_sem, fb8, fb10]
    refine DW.acp [] [] rfl rfl rfl rfl (by (try simp only [go_sem]); rfl) rfl (copy_cr T s (Nat.le_trans inv.bx (by decide)) (fun y hy => Nat.le_trans (inv.al y hy).1 (by decide)) (Nat.le_trans inv.sp (by decide)) [_, _, _] _ _) ?_
    rintro _ _ ⟨l, bb, cb, u, hl, hcb, hu, rfl, rfl⟩
    simp only [List.cons_append, List.nil_append]
    have e1 := plain_mA
    simp only [AV.plain, AV.one] at e1
    have e2 := cells_mA
    unfold AV.cells at e2
    try simp only [freshT, freshL] at e1
    try simp only [freshT, freshL] at e2
    try simp only [go_sem]
    intro b11
    first | intro fb11 | have fb11 := True.intro
    try simp only [freshL] at fb11
    refine hK6 _ _ ?_
    try clear hK6 K6
    refine AWp.mask [true, true, true, false, true, true, true] rfl ?_
    simp only [go_sem]
    have hlen : l.length = s.boxes.length := by rw [← hl]; simp [bmB]
    have hil : i < l.length := by omega
    have hcb0 : 0 < cb := Nat.pos_of_ne_zero fun e => by have := hcb e; rw [this] at hil; exact absurd hil (Nat.not_lt_zero _)
    simp only [mA_pos hcb0, mO_pos hcb0]
    refine AWp.nd fun hnd => ?_
    obtain ⟨n1, n2, n3, n4⟩ := nd5 hnd
    clear hnd
    obtain ⟨x, hx⟩ : ∃ x, l[i]? = some x := ⟨_, List.getElem?_eq_getElem hil⟩
    have hxb : x.b = s.boxes[i] := by have h1 := bmB_at hx; rw [hl, hgi] at h1; exact (Option.some.inj h1).symm
    have hgx : s.boxes[i]? = some x.b := by rw [hxb]; exact hgi
    simp only [← hxb] at hc0 hI1 hI2 ⊢
    rcases Nat.eq_zero_or_pos x.c with hz | hz
    · skip
      have hm0 := x.ok hz
      refine AWp.pm (front0 [_, _, _, _, _] hx hz) ?_
      simp only [List.cons_append, List.nil_append]
      refine AWp.dsN false [0, 2, 3, 5, 9, 10, 11, 12, 13] [1, 4, 6, 7, 8] [14, 15, 16, 17] 18 [] rfl (by kernel_rfl) rfl fun K7 hK7 => ?_
      try simp only [go_sem, fb10, fb11, bne_r n2]
      refine Exists.intro (fun h' : AH => getO b11 h'.objs = some ⟨2, 1, [[.arr bb 3 l.length cb, .own u 6 (entsD s.spool)]]⟩ ∧ getO bb h'.objs = some ⟨3, cb, bmRows l⟩) (And.intro ⟨by simp [getO], by simp [getO, bne_l n1, bne_l n2, bne_l n3, bne_l n4]⟩ ?_)
      try simp only [go_sem]
      refine FRN.ld rfl rfl (fun h' ⟨m1, m2⟩ => (by first | rfl | (simp only [go_sem, m1]; first | done | rfl | exact ⟨by omega, rfl⟩))) ?_
      try simp only [go_sem]
      refine FRN.ld rfl rfl (fun h' ⟨m1, m2⟩ => (by first | rfl | (simp only [go_sem, m1]; first | done | rfl | exact ⟨by omega, rfl⟩))) ?_
      try simp only [go_sem]
      refine FRN.op rfl (fun h' => (by first | rfl | (simp only [go_sem, sNat]; first | done | rfl | exact ⟨by omega, rfl⟩))) ?_
      try simp only [go_sem]
      refine FRN.op rfl (fun h' => (by first | rfl | (simp only [go_sem]; first | done | rfl | exact ⟨by omega, rfl⟩))) ?_
      try simp only [go_sem]
      refine FRN.ld rfl rfl (fun h' ⟨m1, m2⟩ => (by first | rfl | (simp only [go_sem, bmRows_get hx, hz, mA_nil, m2]; first | done | rfl | exact ⟨by omega, rfl⟩))) ?_
      try simp only [go_sem]
      refine FRN.nil ?_
      refine lvc_ok _ _ _ ?_
      try simp only [go_sem, fb11, bne_l n1, bne_r n1, bne_l n2, bne_l n3, bne_l n4]
      first | with_reducible refine And.intro ⟨by simp [getO, fb11, icast, boxesD_get s.boxes i _ hi, boxD, mailsD_len, fb4, fb8, fb10, fb11, bne_l n1, bne_r n1, bne_l n2, bne_r n2, bne_l n3, bne_r n3, bne_l n4, bne_r n4, bmRows_len, bmRows_get hx, List.getElem?_set_self (show i < (bmRows l).length by rw [bmRows_len]; exact hil), List.set_set, sNat, hil, hz, mA_nil], by simp [getO, icast, boxesD_get s.boxes i _ hi, boxD, mailsD_len, fb4, fb8, fb10, fb11, bne_l n1, bne_r n1, bne_l n2, bne_r n2, bne_l n3, bne_r n3, bne_l n4, bne_r n4, bmRows_len, bmRows_get hx, List.getElem?_set_self (show i < (bmRows l).length by rw [bmRows_len]; exact hil), List.set_set, sNat, hil, hz, mA_nil]⟩ ?_ | with_reducible refine ⟨by simp [getO, fb11, icast, boxesD_get s.boxes i _ hi, boxD, mailsD_len, fb4, fb8, fb10, fb11, bne_l n1, bne_r n1, bne_l n2, bne_r n2, bne_l n3, bne_r n3, bne_l n4, bne_r n4, bmRows_len, bmRows_get hx, List.getElem?_set_self (show i < (bmRows l).length by rw [bmRows_len]; exact hil), List.set_set, sNat, hil, hz, mA_nil], by simp [getO, icast, boxesD_get s.boxes i _ hi, boxD, mailsD_len, fb4, fb8, fb10, fb11, bne_l n1, bne_r n1, bne_l n2, bne_r n2, bne_l n3, bne_r n3, bne_l n4, bne_r n4, bmRows_len, bmRows_get hx, List.getElem?_set_self (show i < (bmRows l).length by rw [bmRows_len]; exact hil), List.set_set, sNat, hil, hz, mA_nil], ?_⟩ | with_reducible refine And.intro (by simp [getO, fb11, icast, boxesD_get s.boxes i _ hi, boxD, mailsD_len, fb4, fb8, fb10, fb11, bne_l n1, bne_r n1, bne_l n2, bne_r n2, bne_l n3, bne_r n3, bne_l n4, bne_r n4, bmRows_len, bmRows_get hx, List.getElem?_set_self (show i < (bmRows l).length by rw [bmRows_len]; exact hil), List.set_set, sNat, hil, hz, mA_nil]) ?_ | with_reducible refine And.intro (by simp [getO, icast, boxesD_get s.boxes i _ hi, boxD, mailsD_len, fb4, fb8, fb10, fb11, bne_l n1, bne_r n1, bne_l n2, bne_r n2, bne_l n3, bne_r n3, bne_l n4, bne_r n4, bmRows_len, bmRows_get hx, List.getElem?_set_self (show i < (bmRows l).length by rw [bmRows_len]; exact hil), List.set_set, sNat, hil, hz, mA_nil]) ?_ | skip
      refine DW.appM (b0 := 0) (c0 := 0) (rows := []) rfl rfl rfl rfl (fun _ => rfl) rfl (show slI Tryd.prog 90 = some (97, 3, 32) by simp only [go_sem]) rfl rfl (by simp) rfl (by first | decide | (simp; done) | omega) (by first | omega | (simp only [go_sem] <;> omega) | (simp only [go_sem, List.length_take, List.length_map, List.length_append, List.length_cons, List.length_nil] <;> omega) | (simp <;> omega)) (by first | omega | (simp only [go_sem] <;> omega) | (simp only [go_sem, List.length_take, List.length_map, List.length_append, List.length_cons, List.length_nil] <;> omega) | (simp <;> omega)) fun bm1 cm1 hcm1 fbm1 => ?_
      try simp only [freshL] at fbm1
      try simp only [go_sem, fb11, bne_l n1, bne_r n1, bne_l n2, bne_l n3, bne_l n4, fbm1]
      first | with_reducible refine And.intro ⟨by simp [getO, fb11, icast, boxesD_get s.boxes i _ hi, boxD, mailsD_len, fb4, fb8, fb10, fb11, bne_l n1, bne_r n1, bne_l n2, bne_r n2, bne_l n3, bne_r n3, bne_l n4, bne_r n4, bmRows_len, bmRows_get hx, List.getElem?_set_self (show i < (bmRows l).length by rw [bmRows_len]; exact hil), List.set_set, sNat, hil, hz, mA_nil, fbm1], by simp [getO, icast, boxesD_get s.boxes i _ hi, boxD, mailsD_len, fb4, fb8, fb10, fb11, bne_l n1, bne_r n1, bne_l n2, bne_r n2, bne_l n3, bne_r n3, bne_l n4, bne_r n4, bmRows_len, bmRows_get hx, List.getElem?_set_self (show i < (bmRows l).length by rw [bmRows_len]; exact hil), List.set_set, sNat, hil, hz, mA_nil, fbm1]⟩ ?_ | with_reducible refine ⟨by simp [getO, fb11, icast, boxesD_get s.boxes i _ hi, boxD, mailsD_len, fb4, fb8, fb10, fb11, bne_l n1, bne_r n1, bne_l n2, bne_r n2, bne_l n3, bne_r n3, bne_l n4, bne_r n4, bmRows_len, bmRows_get hx, List.getElem?_set_self (show i < (bmRows l).length by rw [bmRows_len]; exact hil), List.set_set, sNat, hil, hz, mA_nil, fbm1], by simp [getO, icast, boxesD_get s.boxes i _ hi, boxD, mailsD_len, fb4, fb8, fb10, fb11, bne_l n1, bne_r n1, bne_l n2, bne_r n2, bne_l n3, bne_r n3, bne_l n4, bne_r n4, bmRows_len, bmRows_get hx, List.getElem?_set_self (show i < (bmRows l).length by rw [bmRows_len]; exact hil), List.set_set, sNat, hil, hz, mA_nil, fbm1], ?_⟩ | with_reducible refine And.intro (by simp [getO, fb11, icast, boxesD_get s.boxes i _ hi, boxD, mailsD_len, fb4, fb8, fb10, fb11, bne_l n1, bne_r n1, bne_l n2, bne_r n2, bne_l n3, bne_r n3, bne_l n4, bne_r n4, bmRows_len, bmRows_get hx, List.getElem?_set_self (show i < (bmRows l).length by rw [bmRows_len]; exact hil), List.set_set, sNat, hil, hz, mA_nil, fbm1]) ?_ | with_reducible refine And.intro (by simp [getO, icast, boxesD_get s.boxes i _ hi, boxD, mailsD_len, fb4, fb8, fb10, fb11, bne_l n1, bne_r n1, bne_l n2, bne_r n2, bne_l n3, bne_r n3, bne_l n4, bne_r n4, bmRows_len, bmRows_get hx, List.getElem?_set_self (show i < (bmRows l).length by rw [bmRows_len]; exact hil), List.set_set, sNat, hil, hz, mA_nil, fbm1]) ?_ | skip
      refine lvc_ok _ _ _ ?_
      try simp only [go_sem, fb11, bne_l n1, bne_r n1, bne_l n2, bne_l n3, bne_l n4, sNat, fbm1]
      (repeat (with_reducible refine And.intro ?_ ?_; omega))
      first | with_reducible refine And.intro ⟨by simp [getO, fb11, icast, boxesD_get s.boxes i _ hi, boxD, mailsD_len, fb4, fb8, fb10, fb11, bne_l n1, bne_r n1, bne_l n2, bne_r n2, bne_l n3, bne_r n3, bne_l n4, bne_r n4, bmRows_len, bmRows_get hx, List.getElem?_set_self (show i < (bmRows l).length by rw [bmRows_len]; exact hil), List.set_set, sNat, hil, hz, mA_nil, fbm1], by simp [getO, icast, boxesD_get s.boxes i _ hi, boxD, mailsD_len, fb4, fb8, fb10, fb11, bne_l n1, bne_r n1, bne_l n2, bne_r n2, bne_l n3, bne_r n3, bne_l n4, bne_r n4, bmRows_len, bmRows_get hx, List.getElem?_set_self (show i < (bmRows l).length by rw [bmRows_len]; exact hil), List.set_set, sNat, hil, hz, mA_nil, fbm1]⟩ ?_ | with_reducible refine ⟨by simp [getO, fb11, icast, boxesD_get s.boxes i _ hi, boxD, mailsD_len, fb4, fb8, fb10, fb11, bne_l n1, bne_r n1, bne_l n2, bne_r n2, bne_l n3, bne_r n3, bne_l n4, bne_r n4, bmRows_len, bmRows_get hx, List.getElem?_set_self (show i < (bmRows l).length by rw [bmRows_len]; exact hil), List.set_set, sNat, hil, hz, mA_nil, fbm1], by simp [getO, icast, boxesD_get s.boxes i _ hi, boxD, mailsD_len, fb4, fb8, fb10, fb11, bne_l n1, bne_r n1, bne_l n2, bne_r n2, bne_l n3, bne_r n3, bne_l n4, bne_r n4, bmRows_len, bmRows_get hx, List.getElem?_set_self (show i < (bmRows l).length by rw [bmRows_len]; exact hil), List.set_set, sNat, hil, hz, mA_nil, fbm1], ?_⟩ | with_reducible refine And.intro (by simp [getO, fb11, icast, boxesD_get s.boxes i _ hi, boxD, mailsD_len, fb4, fb8, fb10, fb11, bne_l n1, bne_r n1, bne_l n2, bne_r n2, bne_l n3, bne_r n3, bne_l n4, bne_r n4, bmRows_len, bmRows_get hx, List.getElem?_set_self (show i < (bmRows l).length by rw [bmRows_len]; exact hil), List.set_set, sNat, hil, hz, mA_nil, fbm1]) ?_ | with_reducible refine And.intro (by simp [getO, icast, boxesD_get s.boxes i _ hi, boxD, mailsD_len, fb4, fb8, fb10, fb11, bne_l n1, bne_r n1, bne_l n2, bne_r n2, bne_l n3, bne_r n3, bne_l n4, bne_r n4, bmRows_len, bmRows_get hx, List.getElem?_set_self (show i < (bmRows l).length by rw [bmRows_len]; exact hil), List.set_set, sNat, hil, hz, mA_nil, fbm1]) ?_ | skip
      refine lvc_ok _ _ _ ?_
      try simp only [go_sem, fb11, bne_l n1, bne_r n1, bne_l n2, bne_l n3, bne_l n4, fbm1]
      first | with_reducible refine And.intro ⟨by simp [getO, fb11, icast, boxesD_get s.boxes i _ hi, boxD, mailsD_len, fb4, fb8, fb10, fb11, bne_l n1, bne_r n1, bne_l n2, bne_r n2, bne_l n3, bne_r n3, bne_l n4, bne_r n4, bmRows_len, bmRows_get hx, List.getElem?_set_self (show i < (bmRows l).length by rw [bmRows_len]; exact hil), List.set_set, sNat, hil, hz, mA_nil, fbm1], by simp [getO, icast, boxesD_get s.boxes i _ hi, boxD, mailsD_len, fb4, fb8, fb10, fb11, bne_l n1, bne_r n1, bne_l n2, bne_r n2, bne_l n3, bne_r n3, bne_l n4, bne_r n4, bmRows_len, bmRows_get hx, List.getElem?_set_self (show i < (bmRows l).length by rw [bmRows_len]; exact hil), List.set_set, sNat, hil, hz, mA_nil, fbm1]⟩ ?_ | with_reducible refine ⟨by simp [getO, fb11, icast, boxesD_get s.boxes i _ hi, boxD, mailsD_len, fb4, fb8, fb10, fb11, bne_l n1, bne_r n1, bne_l n2, bne_r n2, bne_l n3, bne_r n3, bne_l n4, bne_r n4, bmRows_len, bmRows_get hx, List.getElem?_set_self (show i < (bmRows l).length by rw [bmRows_len]; exact hil), List.set_set, sNat, hil, hz, mA_nil, fbm1], by simp [getO, icast, boxesD_get s.boxes i _ hi, boxD, mailsD_len, fb4, fb8, fb10, fb11, bne_l n1, bne_r n1, bne_l n2, bne_r n2, bne_l n3, bne_r n3, bne_l n4, bne_r n4, bmRows_len, bmRows_get hx, List.getElem?_set_self (show i < (bmRows l).length by rw [bmRows_len]; exact hil), List.set_set, sNat, hil, hz, mA_nil, fbm1], ?_⟩ | with_reducible refine And.intro (by simp [getO, fb11, icast, boxesD_get s.boxes i _ hi, boxD, mailsD_len, fb4, fb8, fb10, fb11, bne_l n1, bne_r n1, bne_l n2, bne_r n2, bne_l n3, bne_r n3, bne_l n4, bne_r n4, bmRows_len, bmRows_get hx, List.getElem?_set_self (show i < (bmRows l).length by rw [bmRows_len]; exact hil), List.set_set, sNat, hil, hz, mA_nil, fbm1]) ?_ | with_reducible refine And.intro (by simp [getO, icast, boxesD_get s.boxes i _ hi, boxD, mailsD_len, fb4, fb8, fb10, fb11, bne_l n1, bne_r n1, bne_l n2, bne_r n2, bne_l n3, bne_r n3, bne_l n4, bne_r n4, bmRows_len, bmRows_get hx, List.getElem?_set_self (show i < (bmRows l).length by rw [bmRows_len]; exact hil), List.set_set, sNat, hil, hz, mA_nil, fbm1]) ?_ | skip
      refine lvc_ok _ _ _ ?_
      try simp only [go_sem, bne_l n1, bne_l n2, bne_l n3, bne_l n4, bmRows_get hx, hz, mA_nil, fbm1]
      refine hK7 _ _ ?_
      try clear hK7 K7
      refine AWp.mask [true, false, false, true, true, true] rfl ?_
      simp only [go_sem]
      refine AWp.rs fun K8 hK8 => ?_
      try simp only [go_sem, fb10, fb11, bne_l n1, bne_r n1, bne_l n2, bne_r n2, bne_l n3, bne_l n4, List.getElem?_set_self (show i < (bmRows l).length by rw [bmRows_len]; exact hil), List.set_set, sNat, fbm1]
      (repeat (with_reducible refine And.intro ?_ ?_; omega))
      refine hK8 _ _ ?_
      try clear hK8 K8
      refine AWp.mask [false, true, false, true] rfl ?_
      simp only [go_sem]
      refine AWp.leH (LeH.of_eq (h' := ⟨mOb (⟨addB x.b fl tx, bm1, cm1, fun h => absurd h (by omega)⟩ : BM) :: (b11, ⟨2, 1, [[.arr bb 3 l.length cb, .own u 6 (entsD s.spool)]]⟩) :: (b10, ⟨3, 1, [[.d (.str x.b.name), .d (.int .i64 x.b.next), .d (.slc 3 (mailsD x.b.mails))]]⟩) :: (b8, ⟨2, 1, [[.nils, .nils]]⟩) :: (b4, ⟨2, 1, [stateA s]⟩) :: (bb, ⟨3, cb, bmRows (l.set i (⟨addB x.b fl tx, bm1, cm1, fun h => absurd h (by omega)⟩ : BM))⟩) :: mObjs (l.eraseIdx i) F, u :: L⟩) ?_) ?_
      · rw [← bmRows_set]; simp [mOb, bmRow, addB, mA_pos hcm1, mailsD, dRows, mailD, stateA, hm0]
      refine AWp.pm (backX [_, _, _, _, _] (⟨addB x.b fl tx, bm1, cm1, fun h => absurd h (by omega)⟩ : BM) hil hcm1) ?_
      simp only [List.cons_append, List.nil_append]
      refine AWp.iceB1 (F := F) [_, _, _] hcb0 (by simp) ?_
      rw [bmB_set, hl]
      simp only [List.cons_append, List.nil_append]
      · skip
        refine AWp.rs fun K9 hK9 => ?_
        try simp only [go_sem, fb8, fb10, fb11]
        refine hK9 _ _ ?_
        try clear hK9 K9
        refine AWp.ret ?_
        apply endW_r [b4, b8, b10, b11] [u] [] [] (by (try simp only [go_sem, fb8, fb10, fb11]); rfl)
        · exact ⟨rfl, by simp [go_sem]⟩
        · rw [addS_0 hgx (by omega)]; simp [LeA, LeL, LeD, boxesD, entsD]
    · skip
      refine AWp.pm (frontX [_, _, _, _, _] hx hz) ?_
      simp only [List.cons_append, List.nil_append]
      refine AWp.nd fun hnd => ?_
      obtain ⟨q1, q2, q3, q4, q5⟩ := nd6 hnd
      clear hnd
      refine AWp.dsN false [0, 2, 3, 5, 9, 10, 11, 12, 13] [1, 4, 6, 7, 8] [14, 15, 16, 17] 18 [] rfl (by kernel_rfl) rfl fun K7 hK7 => ?_
      try simp only [go_sem, fb10, fb11, bne_r n2, bne_l q2]
      refine Exists.intro (fun h' : AH => getO b11 h'.objs = some ⟨2, 1, [[.arr bb 3 l.length cb, .own u 6 (entsD s.spool)]]⟩ ∧ getO bb h'.objs = some ⟨3, cb, bmRows l⟩) (And.intro ⟨by simp [getO, bne_l q1], by simp [getO, bne_l n1, bne_l n2, bne_l n3, bne_l n4, bne_l q5]⟩ ?_)
      try simp only [go_sem]
      refine FRN.ld rfl rfl (fun h' ⟨m1, m2⟩ => (by first | rfl | (simp only [go_sem, m1]; first | done | rfl | exact ⟨by omega, rfl⟩))) ?_
      try simp only [go_sem]
      refine FRN.ld rfl rfl (fun h' ⟨m1, m2⟩ => (by first | rfl | (simp only [go_sem, m1]; first | done | rfl | exact ⟨by omega, rfl⟩))) ?_
      try simp only [go_sem]
      refine FRN.op rfl (fun h' => (by first | rfl | (simp only [go_sem, sNat]; first | done | rfl | exact ⟨by omega, rfl⟩))) ?_
      try simp only [go_sem]
      refine FRN.op rfl (fun h' => (by first | rfl | (simp only [go_sem]; first | done | rfl | exact ⟨by omega, rfl⟩))) ?_
      try simp only [go_sem]
      refine FRN.ld rfl rfl (fun h' ⟨m1, m2⟩ => (by first | rfl | (simp only [go_sem, bmRows_get hx, mA_pos hz, m2]; first | done | rfl | exact ⟨by omega, rfl⟩))) ?_
      try simp only [go_sem]
      refine FRN.nil ?_
      refine lvc_ok _ _ _ ?_
      try simp only [go_sem, fb11, bne_l n1, bne_r n1, bne_l n2, bne_l n3, bne_l n4, bne_l q1, bne_l q5]
      first | with_reducible refine And.intro ⟨by simp [getO, fb11, icast, boxesD_get s.boxes i _ hi, boxD, mailsD_len, fb4, fb8, fb10, fb11, bne_l n1, bne_r n1, bne_l n2, bne_r n2, bne_l n3, bne_r n3, bne_l n4, bne_r n4, bmRows_len, bmRows_get hx, List.getElem?_set_self (show i < (bmRows l).length by rw [bmRows_len]; exact hil), List.set_set, sNat, hil, mA_pos hz, bne_l q1, bne_r q1, bne_l q2, bne_r q2, bne_l q3, bne_r q3, bne_l q4, bne_r q4, bne_l q5, bne_r q5], by simp [getO, icast, boxesD_get s.boxes i _ hi, boxD, mailsD_len, fb4, fb8, fb10, fb11, bne_l n1, bne_r n1, bne_l n2, bne_r n2, bne_l n3, bne_r n3, bne_l n4, bne_r n4, bmRows_len, bmRows_get hx, List.getElem?_set_self (show i < (bmRows l).length by rw [bmRows_len]; exact hil), List.set_set, sNat, hil, mA_pos hz, bne_l q1, bne_r q1, bne_l q2, bne_r q2, bne_l q3, bne_r q3, bne_l q4, bne_r q4, bne_l q5, bne_r q5]⟩ ?_ | with_reducible refine ⟨by simp [getO, fb11, icast, boxesD_get s.boxes i _ hi, boxD, mailsD_len, fb4, fb8, fb10, fb11, bne_l n1, bne_r n1, bne_l n2, bne_r n2, bne_l n3, bne_r n3, bne_l n4, bne_r n4, bmRows_len, bmRows_get hx, List.getElem?_set_self (show i < (bmRows l).length by rw [bmRows_len]; exact hil), List.set_set, sNat, hil, mA_pos hz, bne_l q1, bne_r q1, bne_l q2, bne_r q2, bne_l q3, bne_r q3, bne_l q4, bne_r q4, bne_l q5, bne_r q5], by simp [getO, icast, boxesD_get s.boxes i _ hi, boxD, mailsD_len, fb4, fb8, fb10, fb11, bne_l n1, bne_r n1, bne_l n2, bne_r n2, bne_l n3, bne_r n3, bne_l n4, bne_r n4, bmRows_len, bmRows_get hx, List.getElem?_set_self (show i < (bmRows l).length by rw [bmRows_len]; exact hil), List.set_set, sNat, hil, mA_pos hz, bne_l q1, bne_r q1, bne_l q2, bne_r q2, bne_l q3, bne_r q3, bne_l q4, bne_r q4, bne_l q5, bne_r q5], ?_⟩ | with_reducible refine And.intro (by simp [getO, fb11, icast, boxesD_get s.boxes i _ hi, boxD, mailsD_len, fb4, fb8, fb10, fb11, bne_l n1, bne_r n1, bne_l n2, bne_r n2, bne_l n3, bne_r n3, bne_l n4, bne_r n4, bmRows_len, bmRows_get hx, List.getElem?_set_self (show i < (bmRows l).length by rw [bmRows_len]; exact hil), List.set_set, sNat, hil, mA_pos hz, bne_l q1, bne_r q1, bne_l q2, bne_r q2, bne_l q3, bne_r q3, bne_l q4, bne_r q4, bne_l q5, bne_r q5]) ?_ | with_reducible refine And.intro (by simp [getO, icast, boxesD_get s.boxes i _ hi, boxD, mailsD_len, fb4, fb8, fb10, fb11, bne_l n1, bne_r n1, bne_l n2, bne_r n2, bne_l n3, bne_r n3, bne_l n4, bne_r n4, bmRows_len, bmRows_get hx, List.getElem?_set_self (show i < (bmRows l).length by rw [bmRows_len]; exact hil), List.set_set, sNat, hil, mA_pos hz, bne_l q1, bne_r q1, bne_l q2, bne_r q2, bne_l q3, bne_r q3, bne_l q4, bne_r q4, bne_l q5, bne_r q5]) ?_ | skip
      refine DW.appM (b0 := x.m) (c0 := x.c) (rows := dRows (mailsD x.b.mails)) rfl rfl (Eq.trans (b := .arr x.m 3 x.b.mails.length x.c) rfl (by rw [mA_pos hz, dRows_len, mailsD_len])) (by rw [mO_pos hz]) (fun h => absurd h (by omega)) rfl (show slI Tryd.prog 90 = some (97, 3, 32) by simp only [go_sem]) rfl rfl (mails_full _) rfl (by first | decide | (simp; done) | omega) (by (try simp only [go_sem, dRows_len, mailsD_len]); omega) (by (try simp only [go_sem, dRows_len, mailsD_len]); omega) fun bm2 cm2 hcm2 fbm2 => ?_
      try simp only [freshL] at fbm2
      try simp only [go_sem, mailsD_len, fb11, bne_l n1, bne_r n1, bne_l n2, bne_l n3, bne_l n4, fbm2]
      first | with_reducible refine And.intro ⟨by simp [getO, fb11, icast, boxesD_get s.boxes i _ hi, boxD, mailsD_len, fb4, fb8, fb10, fb11, bne_l n1, bne_r n1, bne_l n2, bne_r n2, bne_l n3, bne_r n3, bne_l n4, bne_r n4, bmRows_len, bmRows_get hx, List.getElem?_set_self (show i < (bmRows l).length by rw [bmRows_len]; exact hil), List.set_set, sNat, hil, mA_pos hz, bne_l q1, bne_r q1, bne_l q2, bne_r q2, bne_l q3, bne_r q3, bne_l q4, bne_r q4, bne_l q5, bne_r q5, fbm2], by simp [getO, icast, boxesD_get s.boxes i _ hi, boxD, mailsD_len, fb4, fb8, fb10, fb11, bne_l n1, bne_r n1, bne_l n2, bne_r n2, bne_l n3, bne_r n3, bne_l n4, bne_r n4, bmRows_len, bmRows_get hx, List.getElem?_set_self (show i < (bmRows l).length by rw [bmRows_len]; exact hil), List.set_set, sNat, hil, mA_pos hz, bne_l q1, bne_r q1, bne_l q2, bne_r q2, bne_l q3, bne_r q3, bne_l q4, bne_r q4, bne_l q5, bne_r q5, fbm2]⟩ ?_ | with_reducible refine ⟨by simp [getO, fb11, icast, boxesD_get s.boxes i _ hi, boxD, mailsD_len, fb4, fb8, fb10, fb11, bne_l n1, bne_r n1, bne_l n2, bne_r n2, bne_l n3, bne_r n3, bne_l n4, bne_r n4, bmRows_len, bmRows_get hx, List.getElem?_set_self (show i < (bmRows l).length by rw [bmRows_len]; exact hil), List.set_set, sNat, hil, mA_pos hz, bne_l q1, bne_r q1, bne_l q2, bne_r q2, bne_l q3, bne_r q3, bne_l q4, bne_r q4, bne_l q5, bne_r q5, fbm2], by simp [getO, icast, boxesD_get s.boxes i _ hi, boxD, mailsD_len, fb4, fb8, fb10, fb11, bne_l n1, bne_r n1, bne_l n2, bne_r n2, bne_l n3, bne_r n3, bne_l n4, bne_r n4, bmRows_len, bmRows_get hx, List.getElem?_set_self (show i < (bmRows l).length by rw [bmRows_len]; exact hil), List.set_set, sNat, hil, mA_pos hz, bne_l q1, bne_r q1, bne_l q2, bne_r q2, bne_l q3, bne_r q3, bne_l q4, bne_r q4, bne_l q5, bne_r q5, fbm2], ?_⟩ | with_reducible refine And.intro (by simp [getO, fb11, icast, boxesD_get s.boxes i _ hi, boxD, mailsD_len, fb4, fb8, fb10, fb11, bne_l n1, bne_r n1, bne_l n2, bne_r n2, bne_l n3, bne_r n3, bne_l n4, bne_r n4, bmRows_len, bmRows_get hx, List.getElem?_set_self (show i < (bmRows l).length by rw [bmRows_len]; exact hil), List.set_set, sNat, hil, mA_pos hz, bne_l q1, bne_r q1, bne_l q2, bne_r q2, bne_l q3, bne_r q3, bne_l q4, bne_r q4, bne_l q5, bne_r q5, fbm2]) ?_ | with_reducible refine And.intro (by simp [getO, icast, boxesD_get s.boxes i _ hi, boxD, mailsD_len, fb4, fb8, fb10, fb11, bne_l n1, bne_r n1, bne_l n2, bne_r n2, bne_l n3, bne_r n3, bne_l n4, bne_r n4, bmRows_len, bmRows_get hx, List.getElem?_set_self (show i < (bmRows l).length by rw [bmRows_len]; exact hil), List.set_set, sNat, hil, mA_pos hz, bne_l q1, bne_r q1, bne_l q2, bne_r q2, bne_l q3, bne_r q3, bne_l q4, bne_r q4, bne_l q5, bne_r q5, fbm2]) ?_ | skip
      refine lvc_ok _ _ _ ?_
      try simp only [go_sem, fb11, bne_l n1, bne_r n1, bne_l n2, bne_l n3, bne_l n4, sNat, fbm2]
      (repeat (with_reducible refine And.intro ?_ ?_; omega))
      first | with_reducible refine And.intro ⟨by simp [getO, fb11, icast, boxesD_get s.boxes i _ hi, boxD, mailsD_len, fb4, fb8, fb10, fb11, bne_l n1, bne_r n1, bne_l n2, bne_r n2, bne_l n3, bne_r n3, bne_l n4, bne_r n4, bmRows_len, bmRows_get hx, List.getElem?_set_self (show i < (bmRows l).length by rw [bmRows_len]; exact hil), List.set_set, sNat, hil, mA_pos hz, bne_l q1, bne_r q1, bne_l q2, bne_r q2, bne_l q3, bne_r q3, bne_l q4, bne_r q4, bne_l q5, bne_r q5, fbm2], by simp [getO, icast, boxesD_get s.boxes i _ hi, boxD, mailsD_len, fb4, fb8, fb10, fb11, bne_l n1, bne_r n1, bne_l n2, bne_r n2, bne_l n3, bne_r n3, bne_l n4, bne_r n4, bmRows_len, bmRows_get hx, List.getElem?_set_self (show i < (bmRows l).length by rw [bmRows_len]; exact hil), List.set_set, sNat, hil, mA_pos hz, bne_l q1, bne_r q1, bne_l q2, bne_r q2, bne_l q3, bne_r q3, bne_l q4, bne_r q4, bne_l q5, bne_r q5, fbm2]⟩ ?_ | with_reducible refine ⟨by simp [getO, fb11, icast, boxesD_get s.boxes i _ hi, boxD, mailsD_len, fb4, fb8, fb10, fb11, bne_l n1, bne_r n1, bne_l n2, bne_r n2, bne_l n3, bne_r n3, bne_l n4, bne_r n4, bmRows_len, bmRows_get hx, List.getElem?_set_self (show i < (bmRows l).length by rw [bmRows_len]; exact hil), List.set_set, sNat, hil, mA_pos hz, bne_l q1, bne_r q1, bne_l q2, bne_r q2, bne_l q3, bne_r q3, bne_l q4, bne_r q4, bne_l q5, bne_r q5, fbm2], by simp [getO, icast, boxesD_get s.boxes i _ hi, boxD, mailsD_len, fb4, fb8, fb10, fb11, bne_l n1, bne_r n1, bne_l n2, bne_r n2, bne_l n3, bne_r n3, bne_l n4, bne_r n4, bmRows_len, bmRows_get hx, List.getElem?_set_self (show i < (bmRows l).length by rw [bmRows_len]; exact hil), List.set_set, sNat, hil, mA_pos hz, bne_l q1, bne_r q1, bne_l q2, bne_r q2, bne_l q3, bne_r q3, bne_l q4, bne_r q4, bne_l q5, bne_r q5, fbm2], ?_⟩ | with_reducible refine And.intro (by simp [getO, fb11, icast, boxesD_get s.boxes i _ hi, boxD, mailsD_len, fb4, fb8, fb10, fb11, bne_l n1, bne_r n1, bne_l n2, bne_r n2, bne_l n3, bne_r n3, bne_l n4, bne_r n4, bmRows_len, bmRows_get hx, List.getElem?_set_self (show i < (bmRows l).length by rw [bmRows_len]; exact hil), List.set_set, sNat, hil, mA_pos hz, bne_l q1, bne_r q1, bne_l q2, bne_r q2, bne_l q3, bne_r q3, bne_l q4, bne_r q4, bne_l q5, bne_r q5, fbm2]) ?_ | with_reducible refine And.intro (by simp [getO, icast, boxesD_get s.boxes i _ hi, boxD, mailsD_len, fb4, fb8, fb10, fb11, bne_l n1, bne_r n1, bne_l n2, bne_r n2, bne_l n3, bne_r n3, bne_l n4, bne_r n4, bmRows_len, bmRows_get hx, List.getElem?_set_self (show i < (bmRows l).length by rw [bmRows_len]; exact hil), List.set_set, sNat, hil, mA_pos hz, bne_l q1, bne_r q1, bne_l q2, bne_r q2, bne_l q3, bne_r q3, bne_l q4, bne_r q4, bne_l q5, bne_r q5, fbm2]) ?_ | skip
      refine lvc_ok _ _ _ ?_
      try simp only [go_sem, fb11, bne_l n1, bne_r n1, bne_l n2, bne_l n3, bne_l n4, fbm2]
      first | with_reducible refine And.intro ⟨by simp [getO, fb11, icast, boxesD_get s.boxes i _ hi, boxD, mailsD_len, fb4, fb8, fb10, fb11, bne_l n1, bne_r n1, bne_l n2, bne_r n2, bne_l n3, bne_r n3, bne_l n4, bne_r n4, bmRows_len, bmRows_get hx, List.getElem?_set_self (show i < (bmRows l).length by rw [bmRows_len]; exact hil), List.set_set, sNat, hil, mA_pos hz, bne_l q1, bne_r q1, bne_l q2, bne_r q2, bne_l q3, bne_r q3, bne_l q4, bne_r q4, bne_l q5, bne_r q5, fbm2], by simp [getO, icast, boxesD_get s.boxes i _ hi, boxD, mailsD_len, fb4, fb8, fb10, fb11, bne_l n1, bne_r n1, bne_l n2, bne_r n2, bne_l n3, bne_r n3, bne_l n4, bne_r n4, bmRows_len, bmRows_get hx, List.getElem?_set_self (show i < (bmRows l).length by rw [bmRows_len]; exact hil), List.set_set, sNat, hil, mA_pos hz, bne_l q1, bne_r q1, bne_l q2, bne_r q2, bne_l q3, bne_r q3, bne_l q4, bne_r q4, bne_l q5, bne_r q5, fbm2]⟩ ?_ | with_reducible refine ⟨by simp [getO, fb11, icast, boxesD_get s.boxes i _ hi, boxD, mailsD_len, fb4, fb8, fb10, fb11, bne_l n1, bne_r n1, bne_l n2, bne_r n2, bne_l n3, bne_r n3, bne_l n4, bne_r n4, bmRows_len, bmRows_get hx, List.getElem?_set_self (show i < (bmRows l).length by rw [bmRows_len]; exact hil), List.set_set, sNat, hil, mA_pos hz, bne_l q1, bne_r q1, bne_l q2, bne_r q2, bne_l q3, bne_r q3, bne_l q4, bne_r q4, bne_l q5, bne_r q5, fbm2], by simp [getO, icast, boxesD_get s.boxes i _ hi, boxD, mailsD_len, fb4, fb8, fb10, fb11, bne_l n1, bne_r n1, bne_l n2, bne_r n2, bne_l n3, bne_r n3, bne_l n4, bne_r n4, bmRows_len, bmRows_get hx, List.getElem?_set_self (show i < (bmRows l).length by rw [bmRows_len]; exact hil), List.set_set, sNat, hil, mA_pos hz, bne_l q1, bne_r q1, bne_l q2, bne_r q2, bne_l q3, bne_r q3, bne_l q4, bne_r q4, bne_l q5, bne_r q5, fbm2], ?_⟩ | with_reducible refine And.intro (by simp [getO, fb11, icast, boxesD_get s.boxes i _ hi, boxD, mailsD_len, fb4, fb8, fb10, fb11, bne_l n1, bne_r n1, bne_l n2, bne_r n2, bne_l n3, bne_r n3, bne_l n4, bne_r n4, bmRows_len, bmRows_get hx, List.getElem?_set_self (show i < (bmRows l).length by rw [bmRows_len]; exact hil), List.set_set, sNat, hil, mA_pos hz, bne_l q1, bne_r q1, bne_l q2, bne_r q2, bne_l q3, bne_r q3, bne_l q4, bne_r q4, bne_l q5, bne_r q5, fbm2]) ?_ | with_reducible refine And.intro (by simp [getO, icast, boxesD_get s.boxes i _ hi, boxD, mailsD_len, fb4, fb8, fb10, fb11, bne_l n1, bne_r n1, bne_l n2, bne_r n2, bne_l n3, bne_r n3, bne_l n4, bne_r n4, bmRows_len, bmRows_get hx, List.getElem?_set_self (show i < (bmRows l).length by rw [bmRows_len]; exact hil), List.set_set, sNat, hil, mA_pos hz, bne_l q1, bne_r q1, bne_l q2, bne_r q2, bne_l q3, bne_r q3, bne_l q4, bne_r q4, bne_l q5, bne_r q5, fbm2]) ?_ | skip
      refine lvc_ok _ _ _ ?_
      try simp only [go_sem, bne_l n1, bne_l n2, bne_l n3, bne_l n4, bmRows_get hx, mA_pos hz, fbm2]
      refine hK7 _ _ ?_
      try clear hK7 K7
      refine AWp.mask [true, false, false, true, true, true] rfl ?_
      simp only [go_sem]
      refine AWp.rs fun K10 hK10 => ?_
      try simp only [go_sem, fb10, fb11, bne_l n1, bne_r n1, bne_l n2, bne_r n2, bne_l n3, bne_l n4, List.getElem?_set_self (show i < (bmRows l).length by rw [bmRows_len]; exact hil), List.set_set, sNat, fbm2]
      (repeat (with_reducible refine And.intro ?_ ?_; omega))
      refine hK10 _ _ ?_
      try clear hK10 K10
      refine AWp.mask [false, true, false, true] rfl ?_
      simp only [go_sem]
      refine AWp.leH (LeH.of_eq (h' := ⟨mOb (⟨addB x.b fl tx, bm2, cm2, fun h => absurd h (by omega)⟩ : BM) :: (b11, ⟨2, 1, [[.arr bb 3 l.length cb, .own u 6 (entsD s.spool)]]⟩) :: (b10, ⟨3, 1, [[.d (.str x.b.name), .d (.int .i64 x.b.next), .d (.slc 3 (mailsD x.b.mails))]]⟩) :: (b8, ⟨2, 1, [[.nils, .nils]]⟩) :: (b4, ⟨2, 1, [stateA s]⟩) :: (bb, ⟨3, cb, bmRows (l.set i (⟨addB x.b fl tx, bm2, cm2, fun h => absurd h (by omega)⟩ : BM))⟩) :: mObjs (l.eraseIdx i) F, u :: L⟩) ?_) ?_
      · rw [← bmRows_set]; simp [mOb, bmRow, addB, mA_pos hcm2, mailsD, dRows, mailD, stateA, List.map_append]
      refine AWp.pm (backX [_, _, _, _, _] (⟨addB x.b fl tx, bm2, cm2, fun h => absurd h (by omega)⟩ : BM) hil hcm2) ?_
      simp only [List.cons_append, List.nil_append]
      refine AWp.iceB1 (F := F) [_, _, _] hcb0 (by simp) ?_
      rw [bmB_set, hl]
      simp only [List.cons_append, List.nil_append]
      · skip
        refine AWp.rs fun K11 hK11 => ?_
        try simp only [go_sem, fb8, fb10, fb11]
        refine hK11 _ _ ?_
        try clear hK11 K11
        refine AWp.ret ?_
        apply endW_r [b4, b8, b10, b11] [u] [] [] (by (try simp only [go_sem, fb8, fb10, fb11]); rfl)
        · exact ⟨rfl, by simp [go_sem]⟩
        · rw [addS_0 hgx (by omega)]; simp [LeA, LeL, LeD, boxesD, entsD]
end Go.Proofs.YthhfbolhlbgbgaaDoor

namespace Go.Proofs.YthhfbolhlbgbgaaDoor
set_option linter.unusedSimpArgs false
set_option linter.unusedVariables false
theorem AWp.nilSlot {P : Program} {T : Tbl} {Q : AQ} {code : Code} {h : AH} {df : AV} {l : SL} {N : Nat} (i k : Nat) (hi : lookS df i l = .nils) (hN : Nat.blt i N = true) (H : AWp P T code Q (mkS df (insS i (.full k []) l) N 0) h) : AWp P T code Q (mkS df l N 0) h := by
  intro G w act S R
  refine H G w act S ?_
  have hlt : i < N := by simpa [Nat.blt_eq] using hN
  rw [← mkS_set]
  refine ⟨by simpa using R.1, fun j x e => ?_⟩
  by_cases hj : i = j
  · subst hj
    rw [List.getElem?_set_self (by rw [mkS_len]; exact hlt)] at e
    injection e with e
    subst e
    obtain ⟨v, h1, h2⟩ := R.2 i .nils (by rw [mkS_get _ _ _ _ _ hlt, Nat.zero_add, hi])
    refine ⟨v, h1, ?_⟩
    cases h2
    exact VR.full (rows := []) (A := none) (.slc0 k none 0 (fun _ => rfl) (Nat.zero_le _))
  · rw [List.getElem?_set_ne hj] at e
    exact R.2 j x e
theorem LeH.tl (p : Nat × Ob) (F : List (Nat × Ob)) (L : List Nat) : LeH ⟨p :: F, L⟩ ⟨F, L⟩ := fun T G w S => S.drop (h' := ⟨F, L⟩) (List.sublist_cons_self ..) (List.Sublist.refl _)
theorem LeH.dropO (A : List (Nat × Ob)) (b k c : Nat) (r : List (List AV)) (F : List (Nat × Ob)) (L : List Nat) : LeH ⟨A ++ mO b k c r F, L⟩ ⟨A ++ F, L⟩ := by
  refine (LeH.pm (mO_back A ..).symm).trans ?_
  rcases Nat.eq_zero_or_pos c with h | h
  · subst h
    rw [mO_nil]; exact LeH.refl _
  · rw [mO_pos h]
    intro T G w S
    exact S.drop (h' := ⟨A ++ F, L⟩) (List.sublist_cons_self ..) (List.Sublist.refl _)
theorem LeH.mput (A : List (Nat × Ob)) {l : List BM} {i : Nat} {z : BM} (Y : BM) (F : List (Nat × Ob)) (L : List Nat) (h : l[i]? = some z) : LeH ⟨A ++ mO Y.m 3 Y.c (dRows (mailsD Y.b.mails)) (mObjs l F), L⟩ ⟨A ++ mObjs (l.set i Y) F, L⟩ := by
  have hi : i < l.length := (List.getElem?_eq_some_iff.1 h).1
  have p1 : (A ++ mO Y.m 3 Y.c (dRows (mailsD Y.b.mails)) (mObjs l F)).Perm (A ++ mO z.m 3 z.c (dRows (mailsD z.b.mails)) (mO Y.m 3 Y.c (dRows (mailsD Y.b.mails)) (mObjs (l.eraseIdx i) F))) :=
    List.Perm.append_left A ((mO_perm (mObjs_front F h)).trans (mO_mO ..))
  exact ((LeH.pm p1).trans (LeH.dropO A _ _ _ _ _ _)).trans (LeH.pm (List.Perm.append_left A (mObjs_put Y F hi)))
theorem del_t {m : Mail} (h : 0 ≤ m.flags) (hc : (m.flags.tdiv 8).tmod 2 = 0) : delB m = false := by
  rw [Int.tdiv_eq_ediv_of_nonneg h, Int.tmod_eq_emod_of_nonneg (by omega)] at hc
  simp [delB, hc]
theorem del_f {m : Mail} (h : 0 ≤ m.flags) (hc : ¬ (m.flags.tdiv 8).tmod 2 = 0) : delB m = true := by
  rw [Int.tdiv_eq_ediv_of_nonneg h, Int.tmod_eq_emod_of_nonneg (by omega)] at hc
  simp [delB, hc]
set_option maxRecDepth 4000 in
set_option maxHeartbeats 1000000 in
theorem entered_c (T : Tbl) (s : St) (x : Ent) (inv : InvS s) (iu : UidS s) (hx : entE x = 0) (F : List (Nat × Ob)) (L : List Nat) : AC Tryd.prog T 70 [.agg (stateA s), .agg (entA x)] (⟨F, L⟩) (fun r h => r = .ret (.tup [.agg (stateA (apS s x).1), .d (.int .i64 ((apS s x).2))]) ∧ h = ⟨F, L⟩) := by
  refine ⟨Tryd.call70, ACalls.enterS Tryd.func70 rfl Tryd.ntmps70 rfl fun hb => ?_⟩
  have h0 := ent_0 hx
  have ibx := inv.bx
  have isp := inv.sp
  simp only [go_sem, Tryd.results70]
  refine AWp.rs fun K1 hK1 => ?_
  try simp only [go_sem]
  intro b2
  first | intro fb2 | have fb2 := True.intro
  try simp only [freshL] at fb2
  intro b3
  first | intro fb3 | have fb3 := True.intro
  try simp only [freshL] at fb3
  intro b4
  first | intro fb4 | have fb4 := True.intro
  try simp only [freshL] at fb4
  refine hK1 _ _ ?_
  try clear hK1 K1
  refine AWp.rs fun K2 hK2 => ?_
  try simp only [go_sem, fb3, fb4]
  refine DW.acp [] [] rfl rfl rfl rfl (by (try simp only [go_sem]); rfl) rfl (copy_cr T s (Nat.le_trans inv.bx (by decide)) (fun y hy => Nat.le_trans (inv.al y hy).1 (by decide)) (Nat.le_trans inv.sp (by decide)) [_, _, _] _ _) ?_
  rintro _ _ ⟨l, bb, cb, u, hl, hcb, hu, rfl, rfl⟩
  simp only [List.cons_append, List.nil_append]
  have e1 := plain_mA
  simp only [AV.plain, AV.one] at e1
  have e2 := cells_mA
  unfold AV.cells at e2
  have hlen : l.length = s.boxes.length := by rw [← hl]; simp [bmB]
  try simp only [freshT, freshL] at e1
  try simp only [freshT, freshL] at e2
  try simp only [go_sem]
  intro b6
  first | intro fb6 | have fb6 := True.intro
  try simp only [freshL] at fb6
  refine hK2 _ _ ?_
  try clear hK2 K2
  refine AWp.mask [false, false, true, true, true, false, true] rfl ?_
  simp only [go_sem]
  refine AWp.rs fun K3 hK3 => ?_
  try simp only [go_sem, fb3, fb4, fb6]
  refine DW.pcr rfl rfl rfl rfl (boxOf_c T s.boxes x.box (Nat.le_trans ibx (by decide))) rfl rfl ?_
  try simp only [go_sem]
  refine hK3 _ _ ?_
  try clear hK3 K3
  refine AWp.mask [true, true, true, true, true] rfl ?_
  simp only [go_sem]
  refine AWp.seq fun K4 hK4 => ?_
  refine AWp.rs fun K5 hK5 => ?_
  try simp only [go_sem, fb3, fb4, fb6]
  refine hK5 _ _ ?_
  try clear hK5 K5
  refine AWp.cond _ rfl (fun hc0 => ?_) (fun hc0 => ?_)
  · skip
    try simp only [decide_eq_true_eq] at hc0
    refine AWp.seq fun K6 hK6 => ?_
    refine AWp.rs fun K7 hK7 => ?_
    try simp only [go_sem, fb3, fb4, fb6]
    refine hK7 _ _ ?_
    try clear hK7 K7
    refine AWp.mask [true, true, true, true, false, false, false, false, false, false, false, true] rfl ?_
    simp only [go_sem]
    refine AWp.cond _ rfl (fun hc1 => ?_) (fun hc1 => ?_)
    · skip
      try simp only [decide_eq_true_eq] at hc1
      refine AWp.iceB (b7 := b6) (l := l) (F := F) [_, _, _] hcb ?_
      simp only [List.cons_append, List.nil_append]
      rw [hl]
      · skip
        refine AWp.rs fun K8 hK8 => ?_
        try simp only [go_sem, fb3, fb4, fb6]
        refine hK8 _ _ ?_
        try clear hK8 K8
        refine AWp.mask [false, false, true, true] rfl ?_
        simp only [go_sem]
        refine AWp.ret ?_
        try simp only [thenQ]
        apply endW_r [b2, b3, b4, b6] [u] [] [] (by (try simp only [go_sem, fb4, fb6]); rfl)
        · exact ⟨rfl, by simp [go_sem]⟩
        · rw [ap_sp5 hc0 (by omega)]; simp [LeA, LeL, LeD, boxesD, entsD]
    · skip
      try simp only [decide_eq_false_iff_not, Int.not_le] at hc1
      refine AWp.skip ?_
      refine thenQ_n ?_
      refine hK6 _ _ ?_
      try clear hK6 K6
      refine AWp.rs fun K9 hK9 => ?_
      try simp only [go_sem, fb3, fb4, fb6]
      refine DW.app rfl rfl rfl rfl (show slI Tryd.prog 23 = some (56, 6, 72) by simp only [go_sem]) rfl rfl (by simp only [go_sem]) (by first | exact .inl rfl | exact .inr rfl) (by (try simp only [go_sem, entsD_len]); omega) (by (try simp only [go_sem, entsD_len]); omega) fun t1 ft1 => ?_
      try simp only [freshT] at ft1
      try simp only [go_sem, fb6]
      refine hK9 _ _ ?_
      try clear hK9 K9
      refine AWp.mask [false, false, true, true] rfl ?_
      simp only [go_sem]
      refine AWp.iceB (b7 := b6) (l := l) (F := F) [_, _, _] hcb ?_
      simp only [List.cons_append, List.nil_append]
      rw [hl]
      · skip
        refine AWp.rs fun K10 hK10 => ?_
        try simp only [go_sem, fb4, fb6]
        refine hK10 _ _ ?_
        try clear hK10 K10
        refine AWp.ret ?_
        try simp only [thenQ]
        apply endW_r [b2, b3, b4, b6] [t1] [] [] (by (try simp only [go_sem, fb4, fb6]); rfl)
        · exact ⟨rfl, by simp [go_sem]⟩
        · rw [ap_sp0 hc0 (by omega)]; simp [LeA, LeL, LeD, boxesD, entsD, entD]
  · skip
    try simp only [decide_eq_false_iff_not] at hc0
    refine AWp.skip ?_
    refine thenQ_n ?_
    refine hK4 _ _ ?_
    try clear hK4 K4
    refine AWp.seq fun K11 hK11 => ?_
    refine AWp.rs fun K12 hK12 => ?_
    try simp only [go_sem, fb3, fb4, fb6]
    refine hK12 _ _ ?_
    try clear hK12 K12
    refine AWp.mask [true, true, true, true, true, false, false, false, false, false, true] rfl ?_
    simp only [go_sem]
    refine AWp.cond _ rfl (fun hc2 => ?_) (fun hc2 => ?_)
    · skip
      try simp only [decide_eq_true_eq] at hc2
      refine AWp.seq fun K13 hK13 => ?_
      refine AWp.rs fun K14 hK14 => ?_
      try simp only [go_sem]
      refine hK14 _ _ ?_
      try clear hK14 K14
      refine AWp.cond _ rfl (fun hc3 => ?_) (fun hc3 => ?_)
      · skip
        try simp only [decide_eq_true_eq] at hc3
        refine AWp.iceB (b7 := b6) (l := l) (F := F) [_, _, _] hcb ?_
        simp only [List.cons_append, List.nil_append]
        rw [hl]
        · skip
          refine AWp.rs fun K15 hK15 => ?_
          try simp only [go_sem, fb3, fb4, fb6]
          refine hK15 _ _ ?_
          try clear hK15 K15
          refine AWp.mask [false, false, true, true] rfl ?_
          simp only [go_sem]
          refine AWp.ret ?_
          try simp only [thenQ]
          apply endW_r [b2, b3, b4, b6] [u] [] [] (by (try simp only [go_sem, fb4, fb6]); rfl)
          · exact ⟨rfl, by simp [go_sem]⟩
          · rw [ap_c10 hc2 hc3]; simp [LeA, LeL, LeD, boxesD, entsD]
      · skip
        try simp only [decide_eq_false_iff_not, Int.not_le] at hc3
        refine AWp.skip ?_
        refine thenQ_n ?_
        refine hK13 _ _ ?_
        try clear hK13 K13
        refine AWp.mask [true, true, true, true] rfl ?_
        simp only [go_sem]
        refine AWp.seq fun K16 hK16 => ?_
        refine AWp.rs fun K17 hK17 => ?_
        try simp only [go_sem, fb3, fb4, fb6]
        refine hK17 _ _ ?_
        try clear hK17 K17
        refine AWp.cond _ rfl (fun hc4 => ?_) (fun hc4 => ?_)
        · skip
          try simp only [decide_eq_true_eq] at hc4
          refine AWp.iceB (b7 := b6) (l := l) (F := F) [_, _, _] hcb ?_
          simp only [List.cons_append, List.nil_append]
          rw [hl]
          · skip
            refine AWp.rs fun K18 hK18 => ?_
            try simp only [go_sem, fb3, fb4, fb6]
            refine hK18 _ _ ?_
            try clear hK18 K18
            refine AWp.mask [false, false, true, true] rfl ?_
            simp only [go_sem]
            refine AWp.ret ?_
            try simp only [thenQ]
            apply endW_r [b2, b3, b4, b6] [u] [] [] (by (try simp only [go_sem, fb4, fb6]); rfl)
            · exact ⟨rfl, by simp [go_sem]⟩
            · rw [ap_c5 hc2 (by omega) (by omega)]; simp [LeA, LeL, LeD, boxesD, entsD]
        · skip
          try simp only [decide_eq_false_iff_not, Int.not_le] at hc4
          refine AWp.skip ?_
          refine thenQ_n ?_
          refine hK16 _ _ ?_
          try clear hK16 K16
          refine AWp.mask [false, true, true, true] rfl ?_
          simp only [go_sem]
          refine AWp.cut 5 fun K19 hK19 => ?_
          simp only [List.take_succ_cons, List.take_zero, List.drop_succ_cons, List.drop_zero]
          try simp only [go_sem, fb3, fb4, fb6]
          refine DW.bsM (he := by first | rfl | kernel_rfl) (rows := [[.d (.str x.box), .d (.int .i64 1), .nils]]) rfl rfl (show slI Tryd.prog 22 = some (92, 3, 48) by simp only [go_sem]) (by rfl) rfl (by decide) (Nat.zero_lt_succ _) fun bn fbn => ?_
          try simp only [freshL] at fbn
          try simp only [go_sem]
          refine DW.leHe rfl (LeH.pm (mO_back [_, _, _, _, _] ..).symm) ?_
          refine DW.appMM (b0 := bb) (c0 := cb) (rows := bmRows l) (b1 := bn) (ob1 := ⟨3, 1, [[.d (.str x.box), .d (.int .i64 1), .nils]]⟩) rfl rfl (by rw [bmRows_len]; rfl) rfl (fun h => by rw [hcb h]; rfl) rfl (by simp [getO]) rfl rfl (by simp) (show slI Tryd.prog 22 = some (92, 3, 48) by simp only [go_sem]) (by first | (simp only [go_sem]; done) | rfl) rfl (bmRows_full l) rfl (Nat.zero_lt_succ _) (by simp only [bmRows_len, List.length_cons, List.length_nil]; omega) (by simp only [bmRows_len, List.length_cons, List.length_nil]; omega) fun bm cm hcm fbm => ?_
          simp only [List.cons_append, List.nil_append, freshL] at fbm ⊢
          try simp only [go_sem, fb6, fbn, fbm]
          refine hK19 _ _ ?_
          try clear hK19 K19
          refine AWp.mask [false, true, true] rfl ?_
          simp only [go_sem]
          refine AWp.nilCell (b := bm) (i := l.length) (j := 2) (k := 3) (ob := ⟨3, cm, bmRows l ++ [[.d (.str x.box), .d (.int .i64 1), .nils]]⟩) (r := [.d (.str x.box), .d (.int .i64 1), .nils]) (by simp [getO]) (by simp [bmRows]) rfl ?_
          refine AWp.leH (LeH.ord [bn] [] [b6, b4, b3, b2, bm] [] _) ?_
          try simp only [go_sem, fb3, fb4, fb6, fbn, fbm]
          refine AWp.leH (LeH.of_eq (h' := ⟨(b6, ⟨2, 1, [[mA bm 3 cm (l ++ [(⟨⟨x.box, 1, []⟩, 0, 0, fun _ => rfl⟩ : BM)]).length, .own u 6 (entsD (s.spool))]]⟩) :: (b4, ⟨2, 1, [[.nils, .nils]]⟩) :: (b3, ⟨6, 1, [entA x]⟩) :: (b2, ⟨2, 1, [stateA s]⟩) :: mO bm 3 cm (bmRows (l ++ [(⟨⟨x.box, 1, []⟩, 0, 0, fun _ => rfl⟩ : BM)])) (mObjs (l ++ [(⟨⟨x.box, 1, []⟩, 0, 0, fun _ => rfl⟩ : BM)]) F), u :: L⟩) ?_) ?_
          · rw [← bmRows_snoc, mObjs_snoc _ _ _ rfl, mO_pos hcm, mA_pos hcm]; simp [bmRow, mA_nil, bmRows, entA, stateA]
          refine AWp.iceB (b7 := b6) (l := (l ++ [(⟨⟨x.box, 1, []⟩, 0, 0, fun _ => rfl⟩ : BM)])) (F := F) [_, _, _] (fun h => absurd h (by omega)) ?_
          simp only [List.cons_append, List.nil_append]
          rw [bmB_snoc, hl]
          · skip
            refine AWp.rs fun K20 hK20 => ?_
            try simp only [go_sem, entA, fb4, fb6]
            refine hK20 _ _ ?_
            try clear hK20 K20
            refine AWp.ret ?_
            try simp only [thenQ]
            apply endW_r [b2, b3, b4, b6] [u] [] [] (by (try simp only [go_sem, fb4, fb6]); rfl)
            · exact ⟨rfl, by simp [go_sem]⟩
            · rw [ap_c0 hc2 (by omega) (by omega)]; simp [LeA, LeL, LeD, boxesD, entsD]
    · skip
      try simp only [decide_eq_false_iff_not] at hc2
      refine AWp.skip ?_
      refine thenQ_n ?_
      refine hK11 _ _ ?_
      try clear hK11 K11
      refine AWp.seq fun K21 hK21 => ?_
      refine AWp.rs fun K22 hK22 => ?_
      try simp only [go_sem]
      refine hK22 _ _ ?_
      try clear hK22 K22
      refine AWp.cond _ rfl (fun hc5 => ?_) (fun hc5 => ?_)
      · skip
        try simp only [decide_eq_true_eq] at hc5
        refine AWp.iceB (b7 := b6) (l := l) (F := F) [_, _, _] hcb ?_
        simp only [List.cons_append, List.nil_append]
        rw [hl]
        · skip
          refine AWp.rs fun K23 hK23 => ?_
          try simp only [go_sem, fb3, fb4, fb6]
          refine hK23 _ _ ?_
          try clear hK23 K23
          refine AWp.mask [false, false, true, true] rfl ?_
          simp only [go_sem]
          refine AWp.ret ?_
          try simp only [thenQ]
          apply endW_r [b2, b3, b4, b6] [u] [] [] (by (try simp only [go_sem, fb4, fb6]); rfl)
          · exact ⟨rfl, by simp [go_sem]⟩
          · rw [ap_n7 hc0 hc2 (by omega)]; simp [LeA, LeL, LeD, boxesD, entsD]
      · skip
        try simp only [decide_eq_false_iff_not, Int.not_lt] at hc5
        obtain ⟨i, hfi⟩ := Int.eq_ofNat_of_zero_le hc5
        have hi : i < s.boxes.length := findI_lt hfi
        have hii : (i : Int) < (s.boxes.length : Int) := by omega
        have hgi : s.boxes[i]? = some (s.boxes[i]'hi) := List.getElem?_eq_getElem hi
        have hI := inv.al _ (List.getElem_mem hi)
        have hI1 := hI.1
        have hU := iu _ (List.getElem_mem hi)
        refine AWp.skip ?_
        refine thenQ_n ?_
        refine hK21 _ _ ?_
        try clear hK21 K21
        refine AWp.seq fun K24 hK24 => ?_
        refine AWp.rs fun K25 hK25 => ?_
        try simp only [go_sem, fb3, fb4, fb6, hfi]
        refine hK25 _ _ ?_
        try clear hK25 K25
        refine AWp.mask [true, true, true, true, true, false, false, false, false, false, true] rfl ?_
        simp only [go_sem]
        refine AWp.cond _ rfl (fun hc6 => ?_) (fun hc6 => ?_)
        · skip
          try simp only [decide_eq_true_eq] at hc6
          refine AWp.iceB (b7 := b6) (l := l) (F := F) [_, _, _] hcb ?_
          simp only [List.cons_append, List.nil_append]
          rw [hl]
          · skip
            refine AWp.rs fun K26 hK26 => ?_
            try simp only [go_sem, fb3, fb4, fb6]
            refine DW.acp [] [] rfl rfl rfl rfl (by (try simp only [go_sem]); rfl) rfl (put_c T s i x.flags x.text inv hi h0.2.2 _ _) ?_
            rintro _ _ ⟨rfl, rfl⟩
            try simp only [go_sem]
            intro b27
            first | intro fb27 | have fb27 := True.intro
            try simp only [freshL] at fb27
            refine hK26 _ _ ?_
            try clear hK26 K26
            refine AWp.mask [false, false, true, false, false, true, true] rfl ?_
            simp only [go_sem]
            refine AWp.rs fun K28 hK28 => ?_
            try simp only [go_sem, fb4, fb6, fb27]
            refine hK28 _ _ ?_
            try clear hK28 K28
            refine AWp.mask [true, true] rfl ?_
            simp only [go_sem]
            refine AWp.ret ?_
            try simp only [thenQ]
            apply endW_r [b2, b3, b4, b6, b27] [u] [] [] (by (try simp only [go_sem, fb4, fb6, fb27]); rfl)
            · exact ⟨rfl, by simp [go_sem]⟩
            · rw [ap_b hc0 hc2 hfi, ab_add hc6]; simp [LeA, LeL, LeD, boxesD, entsD]
        · skip
          try simp only [decide_eq_false_iff_not] at hc6
          refine AWp.skip ?_
          refine thenQ_n ?_
          refine hK24 _ _ ?_
          try clear hK24 K24
          refine AWp.rs fun K29 hK29 => ?_
          try simp only [go_sem]
          refine hK29 _ _ ?_
          try clear hK29 K29
          refine AWp.rs fun K30 hK30 => ?_
          try simp only [go_sem]
          refine hK30 _ _ ?_
          try clear hK30 K30
          refine AWp.seq fun K31 hK31 => ?_
          refine AWp.rs fun K32 hK32 => ?_
          try simp only [go_sem]
          refine hK32 _ _ ?_
          try clear hK32 K32
          refine AWp.block ?_
          refine AWp.mask [true, true, true, true, true, true, true, true] rfl ?_
          simp only [go_sem]
          refine AWp.nilSlot 10 3 rfl rfl ?_
          simp only [go_sem]
          refine AWp.loopS [true, true, true, true, true] [false, false, false, false, false, true, true, true] (fun n lc hc => ∃ (k m c : Nat), n = (s.boxes[i]'hi).mails.length - k ∧ EqS lc [(10, mA m 3 c (keepM ((s.boxes[i]'hi).mails.take k)).length), (11, .d (.int .i64 (idxI (fun m : Mail => decide (m.uid = x.uid)) ((s.boxes[i]'hi).mails.take k)))), (12, .d (.int .i64 k))] ∧ EqS hc (⟨(b6, ⟨2, 1, [[mA bb 3 cb l.length, .own u 6 (entsD (s.spool))]]⟩) :: (b4, ⟨2, 1, [[.nils, .nils]]⟩) :: (b3, ⟨6, 1, [entA x]⟩) :: (b2, ⟨2, 1, [stateA s]⟩) :: mO m 3 c (dRows (mailsD (keepM ((s.boxes[i]'hi).mails.take k)))) (mO bb 3 cb (bmRows l) (mObjs l F)), u :: L⟩) ∧ (k ≤ (s.boxes[i]'hi).mails.length) ∧ (c = 0 → keepM ((s.boxes[i]'hi).mails.take k) = [])) rfl ?_ ?_
          · refine ⟨_, 0, 0, 0, rfl, ?_, ?_, ?_, ?_⟩
            · (try simp only [go_sem]) <;> first | exact ⟨rfl⟩ | (constructor; simp [keepM, idxI, mA_nil])
            · (try simp only [go_sem, entA]) <;> first | exact ⟨rfl⟩ | (constructor; simp [keepM, mO_nil, mailsD, dRows])
            all_goals (first | omega | (simp [keepM]))
          · rintro _ _ _ ⟨k, m, c, rfl, ⟨rfl⟩, ⟨rfl⟩, h1, hmc⟩
            simp only [go_sem]
            refine AWp.seq fun K33 hK33 => ?_
            refine AWp.rs fun K34 hK34 => ?_
            try simp only [go_sem, boxD, mailsD_len, fb3, fb4, fb6, hii, boxesD_get s.boxes i _ hi]
            refine hK34 _ _ ?_
            try clear hK34 K34
            refine AWp.mask [true, true, true, true, true, true, true, true, false, false, false, false, false, false, false, false, true] rfl ?_
            simp only [go_sem]
            refine AWp.cond _ rfl (fun hc7 => ?_) (fun hc7 => ?_)
            · skip
              try simp only [decide_eq_true_eq] at hc7
              have hkl : k < (s.boxes[i]'hi).mails.length := by omega
              have hki : (k : Int) < ((s.boxes[i]'hi).mails.length : Int) := by omega
              have hfm := hI.2.2 _ (List.getElem_mem hkl)
              have hf2 := hfm.1
              have hf3 := hfm.2.1
              have hkm : (keepM ((s.boxes[i]'hi).mails.take k)).length ≤ k := Nat.le_trans (List.length_filter_le _ _) (by simp; omega)
              refine AWp.skip ?_
              refine thenQ_n ?_
              refine hK33 _ _ ?_
              try clear hK33 K33
              refine AWp.seq fun K35 hK35 => ?_
              refine AWp.block ?_
              refine AWp.rs fun K36 hK36 => ?_
              try simp only [go_sem, boxD, mailsD_len, fb3, fb4, fb6, hii, boxesD_get s.boxes i _ hi, hki, mailsD_get _ _ _ hkl, mailD]
              intro b13
              first | intro fb13 | have fb13 := True.intro
              try simp only [freshL] at fb13
              refine hK36 _ _ ?_
              try clear hK36 K36
              refine AWp.mask [true, true, true, true, true, true, true, true, true] rfl ?_
              simp only [go_sem]
              refine AWp.seq fun K37 hK37 => ?_
              refine AWp.rs fun K38 hK38 => ?_
              try simp only [go_sem, fb13]
              refine ⟨⟨by decide, by rw [Int.tdiv_eq_ediv_of_nonneg hfm.1]; omega, by rw [Int.tdiv_eq_ediv_of_nonneg hfm.1]; omega⟩, by decide, ?_⟩
              refine hK38 _ _ ?_
              try clear hK38 K38
              refine AWp.mask [true, true, true, true, true, true, true, true, true, false, false, false, false, true] rfl ?_
              simp only [go_sem]
              refine AWp.cond _ rfl (fun hc8 => ?_) (fun hc8 => ?_)
              · skip
                try simp only [decide_eq_true_eq] at hc8
                have hk8 := keep_yes hkl (del_t hfm.1 hc8)
                refine AWp.rk fun K39 hK39 => ?_
                try simp only [go_sem, fb13]
                refine DW.leHe rfl (LeH.pm (mO_back [_, _, _, _, _] ..).symm) ?_
                refine DW.appM (b0 := m) (c0 := c) (rows := dRows (mailsD (keepM ((s.boxes[i]'hi).mails.take k)))) rfl rfl (by rw [dRows_len, mailsD_len]; rfl) rfl (fun h => by rw [hmc h]; rfl) rfl (show slI Tryd.prog 90 = some (97, 3, 32) by simp only [go_sem]) rfl rfl (mails_full _) rfl (by simp) (by simp only [dRows_len, mailsD_len, List.length_cons, List.length_nil]; omega) (by simp only [dRows_len, mailsD_len, List.length_cons, List.length_nil]; omega) fun bm cm hcm fbm => ?_
                simp only [dRows_len, mailsD_len, List.length_cons, List.length_nil, List.cons_append, List.nil_append, freshL] at fbm ⊢
                try simp only [go_sem]
                refine hK39 _ _ ?_
                try clear hK39 K39
                refine thenQ_n ?_
                refine hK37 _ _ ?_
                try clear hK37 K37
                refine AWp.mask [true, true, true, true, true, true, true, true, true] rfl ?_
                simp only [go_sem]
                refine AWp.rs fun K40 hK40 => ?_
                try simp only [go_sem, fb3, fb4, fb6, fb13, fbm]
                refine hK40 _ _ ?_
                try clear hK40 K40
                refine AWp.mask [true, true, true, true, true, true, true, true, false, false, false, false, false, true] rfl ?_
                simp only [go_sem]
                refine AWp.cond _ rfl (fun hc9 => ?_) (fun hc9 => ?_)
                · skip
                  try simp only [decide_eq_true_eq] at hc9
                  have hk9 := uid_at hU.1 hkl hc9
                  refine AWp.rk fun K41 hK41 => ?_
                  try simp only [go_sem]
                  refine hK41 _ _ ?_
                  try clear hK41 K41
                  refine blkQ_n (thenQ_n ?_)
                  refine hK35 _ _ ?_
                  try clear hK35 K35
                  refine AWp.rk fun K42 hK42 => ?_
                  try simp only [go_sem, icast]
                  (repeat (with_reducible refine And.intro ?_ ?_; omega))
                  refine hK42 _ _ ?_
                  try clear hK42 K42
                  refine thenQ_n ?_
                  refine EndS.mk [true, true, true, true, true] [false, false, false, false, false, true, true, true] [b13] [] [b6, b4, b3, b2] [u] rfl ?_ ?_
                  · (try simp only [go_sem]) <;> try rfl
                  refine .e ⟨_, ?_, k + 1, bm, cm, rfl, ?_, ?_, ?_, ?_⟩
                  · first | omega | (simp; omega) | (grind)
                  · (try simp only [go_sem, hk8, hk9]) <;> first | exact ⟨rfl⟩ | (constructor; simp [mA_pos hcm])
                  · (try simp only [go_sem, fb3, fb4, fb6, fb13, hk8, fbm]) <;> first | exact ⟨rfl⟩ | (constructor; rw [mO_pos hcm]; simp only [dRows, mailsD, List.map_append, List.map_cons, List.map_nil, mailD])
                  · omega
                  · exact fun h => absurd h (by omega)
                · skip
                  try simp only [decide_eq_false_iff_not] at hc9
                  have hk9 := uid_no hkl hc9
                  refine AWp.skip ?_
                  refine blkQ_n (thenQ_n ?_)
                  refine hK35 _ _ ?_
                  try clear hK35 K35
                  refine AWp.rk fun K43 hK43 => ?_
                  try simp only [go_sem, icast]
                  (repeat (with_reducible refine And.intro ?_ ?_; omega))
                  refine hK43 _ _ ?_
                  try clear hK43 K43
                  refine thenQ_n ?_
                  refine EndS.mk [true, true, true, true, true] [false, false, false, false, false, true, true, true] [b13] [] [b6, b4, b3, b2] [u] rfl ?_ ?_
                  · (try simp only [go_sem]) <;> try rfl
                  refine .e ⟨_, ?_, k + 1, bm, cm, rfl, ?_, ?_, ?_, ?_⟩
                  · first | omega | (simp; omega) | (grind)
                  · (try simp only [go_sem, hk8, hk9]) <;> first | exact ⟨rfl⟩ | (constructor; simp [mA_pos hcm])
                  · (try simp only [go_sem, fb3, fb4, fb6, fb13, hk8, fbm]) <;> first | exact ⟨rfl⟩ | (constructor; rw [mO_pos hcm]; simp only [dRows, mailsD, List.map_append, List.map_cons, List.map_nil, mailD])
                  · omega
                  · exact fun h => absurd h (by omega)
              · skip
                try simp only [decide_eq_false_iff_not] at hc8
                have hk8 := keep_no hkl (del_f hfm.1 hc8)
                refine AWp.skip ?_
                refine thenQ_n ?_
                refine hK37 _ _ ?_
                try clear hK37 K37
                refine AWp.rs fun K44 hK44 => ?_
                try simp only [go_sem, fb3, fb4, fb6, fb13]
                refine hK44 _ _ ?_
                try clear hK44 K44
                refine AWp.mask [true, true, true, true, true, true, true, true, false, false, false, false, false, false, true] rfl ?_
                simp only [go_sem]
                refine AWp.cond _ rfl (fun hc9 => ?_) (fun hc9 => ?_)
                · skip
                  try simp only [decide_eq_true_eq] at hc9
                  have hk9 := uid_at hU.1 hkl hc9
                  refine AWp.rk fun K45 hK45 => ?_
                  try simp only [go_sem]
                  refine hK45 _ _ ?_
                  try clear hK45 K45
                  refine blkQ_n (thenQ_n ?_)
                  refine hK35 _ _ ?_
                  try clear hK35 K35
                  refine AWp.rk fun K46 hK46 => ?_
                  try simp only [go_sem, icast]
                  (repeat (with_reducible refine And.intro ?_ ?_; omega))
                  refine hK46 _ _ ?_
                  try clear hK46 K46
                  refine thenQ_n ?_
                  refine EndS.mk [true, true, true, true, true] [false, false, false, false, false, true, true, true] [b13] [] [b6, b4, b3, b2] [u] rfl ?_ ?_
                  · (try simp only [go_sem]) <;> try rfl
                  refine .e ⟨_, ?_, k + 1, m, c, rfl, ?_, ?_, ?_, ?_⟩
                  · first | omega | (simp; omega) | (grind)
                  · (try simp only [go_sem, hk8, hk9]) <;> first | exact ⟨rfl⟩ | (constructor; rfl)
                  · (try simp only [go_sem, fb3, fb4, fb6, fb13, hk8]) <;> first | exact ⟨rfl⟩ | (constructor; rfl)
                  · omega
                  · rw [hk8]; exact hmc
                · skip
                  try simp only [decide_eq_false_iff_not] at hc9
                  have hk9 := uid_no hkl hc9
                  refine AWp.skip ?_
                  refine blkQ_n (thenQ_n ?_)
                  refine hK35 _ _ ?_
                  try clear hK35 K35
                  refine AWp.rk fun K47 hK47 => ?_
                  try simp only [go_sem, icast]
                  (repeat (with_reducible refine And.intro ?_ ?_; omega))
                  refine hK47 _ _ ?_
                  try clear hK47 K47
                  refine thenQ_n ?_
                  refine EndS.mk [true, true, true, true, true] [false, false, false, false, false, true, true, true] [b13] [] [b6, b4, b3, b2] [u] rfl ?_ ?_
                  · (try simp only [go_sem]) <;> try rfl
                  refine .e ⟨_, ?_, k + 1, m, c, rfl, ?_, ?_, ?_, ?_⟩
                  · first | omega | (simp; omega) | (grind)
                  · (try simp only [go_sem, hk8, hk9]) <;> first | exact ⟨rfl⟩ | (constructor; rfl)
                  · (try simp only [go_sem, fb3, fb4, fb6, fb13, hk8]) <;> first | exact ⟨rfl⟩ | (constructor; rfl)
                  · omega
                  · rw [hk8]; exact hmc
            · skip
              try simp only [decide_eq_false_iff_not, Int.not_lt] at hc7
              have hk : k = (s.boxes[i]'hi).mails.length := by omega
              subst hk
              simp only [List.take_length] at hmc ⊢
              refine AWp.exit ?_
              refine thenQ_e (thenQ_e (blkQ_e (thenQ_n ?_)))
              refine hK31 _ _ ?_
              try clear hK31 K31
              refine AWp.seq fun K48 hK48 => ?_
              refine AWp.rs fun K49 hK49 => ?_
              try simp only [go_sem, fb3, fb4, fb6]
              refine hK49 _ _ ?_
              try clear hK49 K49
              refine AWp.mask [true, true, true, true, true, true, true, false, false, false, false, true] rfl ?_
              simp only [go_sem]
              refine AWp.cond _ rfl (fun hc10 => ?_) (fun hc10 => ?_)
              · skip
                try simp only [decide_eq_true_eq] at hc10
                have hlen : l.length = s.boxes.length := by rw [← hl]; simp [bmB]
                have hil : i < l.length := by omega
                have hcb0 : 0 < cb := Nat.pos_of_ne_zero fun e => by have := hcb e; rw [this] at hil; exact absurd hil (Nat.not_lt_zero _)
                obtain ⟨z, hz⟩ : ∃ z, l[i]? = some z := ⟨_, List.getElem?_eq_getElem hil⟩
                have hzb : z.b = s.boxes[i] := by have h1 := bmB_at hz; rw [hl, hgi] at h1; exact (Option.some.inj h1).symm
                have hgz : s.boxes[i]? = some z.b := by rw [hzb]; exact hgi
                rw [← hzb] at hmc
                simp only [mA_pos hcb0, mO_pos hcb0]
                refine AWp.pm (List.Perm.append_left [_, _, _, _] (mO_swap ..).symm) ?_
                simp only [List.cons_append, List.nil_append]
                refine AWp.nd fun hnd => ?_
                obtain ⟨n1, n2, n3, n4⟩ := nd5 hnd
                clear hnd
                · skip
                  refine AWp.rs fun K50 hK50 => ?_
                  try simp only [go_sem, e1, e2, fb6, bne_l n1, bne_r n1, bne_l n2, bne_l n3, bne_l n4, bmRows_get hz, sNat]
                  (repeat (with_reducible refine And.intro ?_ ?_; omega))
                  refine hK50 _ _ ?_
                  try clear hK50 K50
                  refine AWp.mask [false, false, true, true] rfl ?_
                  simp only [go_sem]
                  refine AWp.leH (LeH.of_eq (h' := ⟨(b6, ⟨2, 1, [[mA bb 3 cb l.length, .own u 6 (entsD (s.spool))]]⟩) :: (b4, ⟨2, 1, [[.nils, .nils]]⟩) :: (b3, ⟨6, 1, [entA x]⟩) :: (b2, ⟨2, 1, [stateA s]⟩) :: (bb, ⟨3, cb, bmRows (l.set i (⟨⟨z.b.name, z.b.next, keepM z.b.mails⟩, m, c, hmc⟩ : BM))⟩) :: mO m 3 c (dRows (mailsD (keepM z.b.mails))) (mObjs l F), u :: L⟩) ?_) ?_
                  · rw [← bmRows_set]; simp [bmRow, mA_pos hcb0, entA, stateA, hzb]
                  refine AWp.leH (LeH.mput [_, _, _, _, _] (⟨⟨z.b.name, z.b.next, keepM z.b.mails⟩, m, c, hmc⟩ : BM) F _ hz) ?_
                  simp only [List.cons_append, List.nil_append, mA_pos hcb0]
                  refine AWp.iceB1 (F := F) [_, _, _] hcb0 (by simp) ?_
                  rw [bmB_set, hl]
                  simp only [List.cons_append, List.nil_append]
                  · skip
                    refine AWp.rs fun K51 hK51 => ?_
                    try simp only [go_sem, entA, fb4, fb6]
                    refine hK51 _ _ ?_
                    try clear hK51 K51
                    refine AWp.ret ?_
                    try simp only [thenQ]
                    apply endW_r [b2, b3, b4, b6] [u] [] [] (by (try simp only [go_sem, fb4, fb6]); rfl)
                    · exact ⟨rfl, by simp [go_sem]⟩
                    · rw [ap_b hc0 hc2 hfi, ab_del hc10 hgi]; simp [hzb, List.map_set, LeA, LeL, LeD, boxesD, entsD]
              · skip
                try simp only [decide_eq_false_iff_not] at hc10
                refine AWp.leH (LeH.dropO [_, _, _, _] _ _ _ _ _ _) ?_
                simp only [List.cons_append, List.nil_append]
                refine AWp.skip ?_
                refine thenQ_n ?_
                refine hK48 _ _ ?_
                try clear hK48 K48
                refine AWp.seq fun K52 hK52 => ?_
                refine AWp.rs fun K53 hK53 => ?_
                try simp only [go_sem]
                refine hK53 _ _ ?_
                try clear hK53 K53
                refine AWp.cond _ rfl (fun hc11 => ?_) (fun hc11 => ?_)
                · skip
                  try simp only [decide_eq_true_eq] at hc11
                  refine AWp.iceB (b7 := b6) (l := l) (F := F) [_, _, _] hcb ?_
                  simp only [List.cons_append, List.nil_append]
                  rw [hl]
                  · skip
                    refine AWp.rs fun K54 hK54 => ?_
                    try simp only [go_sem, fb3, fb4, fb6]
                    refine hK54 _ _ ?_
                    try clear hK54 K54
                    refine AWp.mask [false, false, true, true] rfl ?_
                    simp only [go_sem]
                    refine AWp.ret ?_
                    try simp only [thenQ]
                    apply endW_r [b2, b3, b4, b6] [u] [] [] (by (try simp only [go_sem, fb4, fb6]); rfl)
                    · exact ⟨rfl, by simp [go_sem]⟩
                    · rw [ap_b hc0 hc2 hfi, ab_7 hc6 hc10 hgi hc11]; simp [LeA, LeL, LeD, boxesD, entsD]
                · skip
                  try simp only [decide_eq_false_iff_not, Int.not_lt] at hc11
                  obtain ⟨k, hki⟩ := Int.eq_ofNat_of_zero_le hc11
                  have hkl := idxI_lt hki
                  have hkk : (k : Int) < ((s.boxes[i]'hi).mails.length : Int) := by omega
                  have hmk : (s.boxes[i]'hi).mails[k]? = some ((s.boxes[i]'hi).mails[k]'hkl) := List.getElem?_eq_getElem hkl
                  refine AWp.skip ?_
                  refine thenQ_n ?_
                  refine hK52 _ _ ?_
                  try clear hK52 K52
                  refine AWp.mask [true, true, true, true, true, false, true] rfl ?_
                  simp only [go_sem]
                  refine AWp.rs fun K55 hK55 => ?_
                  try simp only [go_sem, boxD, mailsD_len, fb3, fb4, fb6, hii, boxesD_get s.boxes i _ hi, hki, hkk, mailsD_get _ _ _ hkl, mailD]
                  intro b14
                  first | intro fb14 | have fb14 := True.intro
                  try simp only [freshL] at fb14
                  refine hK55 _ _ ?_
                  try clear hK55 K55
                  refine AWp.mask [true, true, true, true, true, true, true] rfl ?_
                  simp only [go_sem]
                  refine AWp.seq fun K56 hK56 => ?_
                  refine AWp.rs fun K57 hK57 => ?_
                  try simp only [go_sem, fb3, fb4, fb6, fb14]
                  refine hK57 _ _ ?_
                  try clear hK57 K57
                  refine AWp.cond _ rfl (fun hc12 => ?_) (fun hc12 => ?_)
                  · skip
                    try simp only [decide_eq_true_eq] at hc12
                    refine AWp.leH (LeH.tl _ _ _) ?_
                    have hlen : l.length = s.boxes.length := by rw [← hl]; simp [bmB]
                    have hil : i < l.length := by omega
                    have hcb0 : 0 < cb := Nat.pos_of_ne_zero fun e => by have := hcb e; rw [this] at hil; exact absurd hil (Nat.not_lt_zero _)
                    obtain ⟨z, hz⟩ : ∃ z, l[i]? = some z := ⟨_, List.getElem?_eq_getElem hil⟩
                    have hzb : z.b = s.boxes[i] := by have h1 := bmB_at hz; rw [hl, hgi] at h1; exact (Option.some.inj h1).symm
                    have hgz : s.boxes[i]? = some z.b := by rw [hzb]; exact hgi
                    simp only [mA_pos hcb0, mO_pos hcb0]
                    refine AWp.nd fun hnd => ?_
                    obtain ⟨n1, n2, n3, n4⟩ := nd5 hnd
                    clear hnd
                    have hzc : 0 < z.c := Nat.pos_of_ne_zero fun e => by have := z.ok e; rw [hzb] at this; rw [this] at hkl; exact absurd hkl (Nat.not_lt_zero _)
                    have hkz : (k : Int) < (z.b.mails.length : Int) := by rw [hzb]; exact hkk
                    have hmz : z.b.mails[k]? = some ((s.boxes[i]'hi).mails[k]'hkl) := by rw [hzb]; exact hmk
                    refine AWp.pm (frontX [_, _, _, _, _] hz hzc) ?_
                    simp only [List.cons_append, List.nil_append]
                    refine AWp.nd fun hnd => ?_
                    obtain ⟨q1, q2, q3, q4, q5⟩ := nd6 hnd
                    clear hnd
                    · skip
                      refine AWp.ds true [0, 1, 2, 3, 4, 5, 6, 7, 8, 9, 10, 11] rfl (by kernel_rfl) fun K58 hK58 => ?_
                      try simp only [go_sem, fb3, fb4, fb6, bne_l n1, bne_r n1, bne_l n2, bne_l n3, bne_r n3, bne_l n4, bmRows_get hz, sNat, hkz, mA_pos hzc, mrow_g hmz, bne_l q1, bne_r q1, bne_r q2, bne_l q3, bne_r q3, bne_r q4, bne_l q5, bne_r q5]
                      (repeat (with_reducible refine And.intro ?_ ?_; omega))
                      refine hK58 _ _ ?_
                      try clear hK58 K58
                      refine AWp.mask [false, false, true, true] rfl ?_
                      simp only [go_sem]
                      refine AWp.leH (LeH.of_eq (h' := ⟨mOb (⟨setFl z.b k x.flags, z.m, z.c, fun h => absurd h (by omega)⟩ : BM) :: (b6, ⟨2, 1, [[mA bb 3 cb l.length, .own u 6 (entsD (s.spool))]]⟩) :: (b4, ⟨2, 1, [[.nils, .nils]]⟩) :: (b3, ⟨6, 1, [entA x]⟩) :: (b2, ⟨2, 1, [stateA s]⟩) :: (bb, ⟨3, cb, bmRows (l.set i (⟨setFl z.b k x.flags, z.m, z.c, fun h => absurd h (by omega)⟩ : BM))⟩) :: mObjs (l.eraseIdx i) F, u :: L⟩) ?_) ?_
                      · rw [bmRows_keep hz (by simp [bmRow, setFl, hmz])]; simp [mOb, setFl, hmz, mailsD, dRows, mailD, List.map_set, entA, stateA, mA_pos hcb0]
                      refine AWp.pm (backX [_, _, _, _, _] (⟨setFl z.b k x.flags, z.m, z.c, fun h => absurd h (by omega)⟩ : BM) hil hzc) ?_
                      simp only [List.cons_append, List.nil_append, mA_pos hcb0]
                      refine AWp.iceB1 (F := F) [_, _, _] hcb0 (by simp) ?_
                      rw [bmB_set, hl]
                      simp only [List.cons_append, List.nil_append]
                      · skip
                        refine AWp.rs fun K59 hK59 => ?_
                        try simp only [go_sem, entA, fb4, fb6]
                        refine hK59 _ _ ?_
                        try clear hK59 K59
                        refine AWp.ret ?_
                        try simp only [thenQ]
                        apply endW_r [b2, b3, b4, b6] [u] [] [] (by (try simp only [go_sem, fb4, fb6]); rfl)
                        · exact ⟨rfl, by simp [go_sem]⟩
                        · rw [ap_b hc0 hc2 hfi, ab_fl hc12 hgi hki]; simp [hzb, List.map_set, LeA, LeL, LeD, boxesD, entsD]
                  · skip
                    try simp only [decide_eq_false_iff_not] at hc12
                    refine AWp.skip ?_
                    refine thenQ_n ?_
                    refine hK56 _ _ ?_
                    try clear hK56 K56
                    refine AWp.mask [true, true, true, false, false, false, true] rfl ?_
                    simp only [go_sem]
                    refine AWp.pm (List.Perm.swap ..) ?_
                    refine AWp.iceB (b7 := b6) (l := l) (F := F) [_, _, _, _] hcb ?_
                    simp only [List.cons_append, List.nil_append]
                    rw [hl]
                    · skip
                      refine AWp.rs fun K60 hK60 => ?_
                      try simp only [go_sem, fb3, fb4, fb6, fb14]
                      refine DW.pcr rfl rfl rfl rfl (boxOf_c T s.boxes x.dest (Nat.le_trans ibx (by decide))) rfl rfl ?_
                      try simp only [go_sem]
                      refine hK60 _ _ ?_
                      try clear hK60 K60
                      refine AWp.mask [true, false, true, true, true] rfl ?_
                      simp only [go_sem]
                      refine AWp.seq fun K61 hK61 => ?_
                      refine AWp.rs fun K62 hK62 => ?_
                      try simp only [go_sem]
                      refine hK62 _ _ ?_
                      try clear hK62 K62
                      refine AWp.cond _ rfl (fun hc13 => ?_) (fun hc13 => ?_)
                      · skip
                        try simp only [decide_eq_true_eq] at hc13
                        refine AWp.rs fun K63 hK63 => ?_
                        try simp only [go_sem, fb3, fb4, fb6, fb14]
                        refine hK63 _ _ ?_
                        try clear hK63 K63
                        refine AWp.mask [false, true, true] rfl ?_
                        simp only [go_sem]
                        refine AWp.ret ?_
                        try simp only [thenQ]
                        apply endW_r [b2, b3, b4, b6, b14] [u] [] [] (by (try simp only [go_sem, fb4, fb6, fb14]); rfl)
                        · exact ⟨rfl, by simp [go_sem, fb14]⟩
                        · rw [ap_b hc0 hc2 hfi, ab_c7 hc6 hc10 hc12 hgi hki hc13]; simp [LeA, LeL, LeD, boxesD, entsD]
                      · skip
                        try simp only [decide_eq_false_iff_not, Int.not_lt] at hc13
                        obtain ⟨j, hfj⟩ := Int.eq_ofNat_of_zero_le hc13
                        have hjl : j < s.boxes.length := findI_lt hfj
                        refine AWp.skip ?_
                        refine thenQ_n ?_
                        refine hK61 _ _ ?_
                        try clear hK61 K61
                        refine AWp.rs fun K64 hK64 => ?_
                        try simp only [go_sem, fb3, fb4, fb6, fb14, hfj]
                        refine DW.acp [] [] rfl rfl rfl rfl (by (try simp only [go_sem]); rfl) rfl (put_c T s j ((s.boxes[i]'hi).mails[k]'hkl).flags ((s.boxes[i]'hi).mails[k]'hkl).text inv hjl (hI.2.2 _ (List.getElem_mem hkl)).2.2 _ _) ?_
                        rintro _ _ ⟨rfl, rfl⟩
                        try simp only [go_sem]
                        intro b65
                        first | intro fb65 | have fb65 := True.intro
                        try simp only [freshL] at fb65
                        refine hK64 _ _ ?_
                        try clear hK64 K64
                        refine AWp.mask [false, true, false, false, true, true] rfl ?_
                        simp only [go_sem]
                        refine AWp.rs fun K66 hK66 => ?_
                        try simp only [go_sem, fb4, fb6, fb14, fb65]
                        refine hK66 _ _ ?_
                        try clear hK66 K66
                        refine AWp.mask [true, true] rfl ?_
                        simp only [go_sem]
                        refine AWp.ret ?_
                        apply endW_r [b2, b3, b4, b6, b14, b65] [u] [] [] (by (try simp only [go_sem, fb4, fb6, fb14, fb65]); rfl)
                        · exact ⟨rfl, by simp [go_sem, fb14]⟩
                        · rw [ap_b hc0 hc2 hfi, ab_cp hc6 hc10 hc12 hgi hki hfj hmk]; simp [LeA, LeL, LeD, boxesD, entsD]
end Go.Proofs.YthhfbolhlbgbgaaDoor

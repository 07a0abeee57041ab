/- Texts that the laws rest on, packed. -/
import Derived.Test.YthhfbolhlbgbgaaDoorGL
import Derived.Test.YthhfbolhlbgbgaaDoorGC
namespace Go.Proofs.YthhfbolhlbgbgaaDoor
set_option linter.unusedSimpArgs false
set_option linter.unusedVariables false
theorem el_no {s : Tx} {f : Nat} (h : Lib.index (s.drop f) [13, 10] < 0) : elI s f = -1 := if_pos h
theorem el_yes {s : Tx} {f e : Nat} (h : Lib.index (s.drop f) [13, 10] = (e : Nat)) : elI s f = ((f + e : Nat) : Int) := by
  unfold elI; rw [h, if_neg (by omega)]; omega
theorem lineEnd_no (T : Tbl) (s : Tx) (f : Nat) (hs : s.length ≤ 1000000) (hf : f ≤ 1000000) (h : Lib.index (s.drop f) [13, 10] < 0) : PC Tryd.prog T 77 [.d (.str s), .d (.int .i64 (f : Nat))] (.d (.int .i64 (-1))) := by
  have := lineEnd_c T s f hs hf
  rwa [el_no h] at this
theorem lineEnd_yes (T : Tbl) (s : Tx) (f : Nat) (hs : s.length ≤ 1000000) (hf : f ≤ 1000000) (e : Nat) (h : Lib.index (s.drop f) [13, 10] = (e : Nat)) : PC Tryd.prog T 77 [.d (.str s), .d (.int .i64 (f : Nat))] (.d (.int .i64 ((f + e : Nat) : Int))) := by
  have := lineEnd_c T s f hs hf
  rwa [el_yes h] at this
theorem co_drop0 (s : Tx) : coI s 0 = Lib.index s [58] := by
  have := Lib.index_ge s [58]
  unfold coI; rw [List.drop_zero]; split <;> omega
theorem colonAt_x (T : Tbl) (s : Tx) (hs : s.length ≤ 1000000) (x : Int) (h : Lib.index s [58] = x) : PC Tryd.prog T 79 [.d (.str s)] (.d (.int .i64 x)) := by
  have := colonAt_c T s hs
  rwa [co_drop0, h] at this
theorem fldsD_g2 {l : List (Tx × Tx)} {i : Nat} {d : List D} (h : i < l.length) : (fldsD l).getD i d = [.str (l.getD i ([], [])).1, .str (l.getD i ([], [])).2] := by
  rw [fldsD_get l i d h]; simp [fldD, List.getD, h]
theorem fldsT_add {acc : List (Tx × Tx)} {k : Nat} (h : k < acc.length) : fldsD ((acc.take k).map trF) ++ [[.str (acc.getD k ([], [])).1, .str (trimS (acc.getD k ([], [])).2)]] = fldsD ((acc.take (k + 1)).map trF) := by
  rw [List.take_add_one, List.getElem?_eq_getElem h, List.map_append]; simp [fldsD, fldD, trF, List.getD, h]
theorem sub_drop (s : Tx) (f e : Nat) : (s.take (f + e)).drop f = (s.drop f).take e := by rw [List.drop_take]; congr 1; omega
set_option maxRecDepth 4000 in
set_option maxHeartbeats 1000000 in
theorem MessageOf_c (T : Tbl) (s : Tx) : PC Tryd.prog T 37 [.d (.str s)] (.tup [.agg [.d (.slc 2 (fldsD (msgV s).1)), .d (.str (msgV s).2.1)], .d (.int .i64 ((msgV s).2.2.1 : Nat)), .d (.int .i64 (msgV s).2.2.2)]) := by
  refine ⟨Tryd.call37, PCall.enterS Tryd.func37 rfl Tryd.ntmps37 rfl fun hb => ?_⟩
  simp only [go_sem, Tryd.results37]
  refine AWp.rs fun K1 hK1 => ?_
  try simp only [go_sem, icast, natT, fldsD_len, Nat.zero_add, List.take_length]
  (repeat (with_reducible refine And.intro ?_ ?_; (first | omega | (intro _; omega) | decide | (exact nfB) | (intro _; exact nfB) | (intro hg; refine ⟨hg, ?_⟩; omega) | (simp; done) | (simp; omega) | (intro hg; simp at hg; done) | (intro hg; simp at hg ⊢; first | omega | exact hg | grind))))
  intro b2
  first | intro fb2 | have fb2 := True.intro
  try simp only [freshL] at fb2
  try simp only [go_sem, icast, natT, fldsD_len, Nat.zero_add, List.take_length, fb2]
  (repeat (with_reducible refine And.intro ?_ ?_; (first | omega | (intro _; omega) | decide | (exact nfB) | (intro _; exact nfB) | (intro hg; refine ⟨hg, ?_⟩; omega) | (simp; done) | (simp; omega) | (intro hg; simp at hg; done) | (intro hg; simp at hg ⊢; first | omega | exact hg | grind))))
  refine hK1 _ _ ?_
  try clear hK1 K1
  refine AWp.seq fun K2 hK2 => ?_
  refine AWp.rs fun K3 hK3 => ?_
  try simp only [go_sem, icast, natT, fldsD_len, Nat.zero_add, List.take_length, fb2]
  (repeat (with_reducible refine And.intro ?_ ?_; (first | omega | (intro _; omega) | decide | (exact nfB) | (intro _; exact nfB) | (intro hg; refine ⟨hg, ?_⟩; omega) | (simp; done) | (simp; omega) | (intro hg; simp at hg; done) | (intro hg; simp at hg ⊢; first | omega | exact hg | grind))))
  refine hK3 _ _ ?_
  try clear hK3 K3
  refine AWp.mask [true, true, false, false, false, false, true] rfl ?_
  simp only [go_sem]
  refine AWp.cond _ rfl (fun hc0 => ?_) (fun hc0 => ?_)
  · skip
    try simp only [decide_eq_true_eq, decide_eq_false_iff_not, Bool.not_eq_true', Bool.not_eq_false', Bool.and_eq_true, Bool.or_eq_true, Bool.and_eq_false_iff, Bool.or_eq_false_iff, Int.not_lt, Int.not_le, beq_iff_eq, beq_eq_false_iff_ne, ne_eq, Bool.not_eq_true, Bool.not_eq_false] at hc0
    refine AWp.rs fun K4 hK4 => ?_
    try simp only [go_sem, icast, natT, fldsD_len, Nat.zero_add, List.take_length, fb2]
    (repeat (with_reducible refine And.intro ?_ ?_; (first | omega | (intro _; omega) | decide | (exact nfB) | (intro _; exact nfB) | (intro hg; refine ⟨hg, ?_⟩; omega) | (simp; done) | (simp; omega) | (intro hg; simp at hg; done) | (intro hg; simp at hg ⊢; first | omega | exact hg | grind))))
    refine hK4 _ _ ?_
    try clear hK4 K4
    refine AWp.ret ?_
    try simp only [go_sem, icast, natT, fldsD_len, Nat.zero_add, List.take_length, fb2]
    rw [msgV_big (by omega)]; simp [LeA, LeL, LeD, fldsD]
  · skip
    try simp only [decide_eq_true_eq, decide_eq_false_iff_not, Bool.not_eq_true', Bool.not_eq_false', Bool.and_eq_true, Bool.or_eq_true, Bool.and_eq_false_iff, Bool.or_eq_false_iff, Int.not_lt, Int.not_le, beq_iff_eq, beq_eq_false_iff_ne, ne_eq, Bool.not_eq_true, Bool.not_eq_false] at hc0
    have hle0 : ¬ 2000 < s.length := by omega
    refine AWp.skip ?_
    refine thenQ_n ?_
    refine hK2 _ _ ?_
    try clear hK2 K2
    refine AWp.rs fun K5 hK5 => ?_
    try simp only [go_sem, icast, natT, fldsD_len, Nat.zero_add, List.take_length, fb2]
    (repeat (with_reducible refine And.intro ?_ ?_; (first | omega | (intro _; omega) | decide | (exact nfB) | (intro _; exact nfB) | (intro hg; refine ⟨hg, ?_⟩; omega) | (simp; done) | (simp; omega) | (intro hg; simp at hg; done) | (intro hg; simp at hg ⊢; first | omega | exact hg | grind))))
    refine hK5 _ _ ?_
    try clear hK5 K5
    refine AWp.rs fun K6 hK6 => ?_
    try simp only [go_sem, icast, natT, fldsD_len, Nat.zero_add, List.take_length, fb2]
    (repeat (with_reducible refine And.intro ?_ ?_; (first | omega | (intro _; omega) | decide | (exact nfB) | (intro _; exact nfB) | (intro hg; refine ⟨hg, ?_⟩; omega) | (simp; done) | (simp; omega) | (intro hg; simp at hg; done) | (intro hg; simp at hg ⊢; first | omega | exact hg | grind))))
    refine hK6 _ _ ?_
    try clear hK6 K6
    refine AWp.seq fun K7 hK7 => ?_
    refine AWp.rs fun K8 hK8 => ?_
    try simp only [go_sem, icast, natT, fldsD_len, Nat.zero_add, List.take_length, fb2]
    (repeat (with_reducible refine And.intro ?_ ?_; (first | omega | (intro _; omega) | decide | (exact nfB) | (intro _; exact nfB) | (intro hg; refine ⟨hg, ?_⟩; omega) | (simp; done) | (simp; omega) | (intro hg; simp at hg; done) | (intro hg; simp at hg ⊢; first | omega | exact hg | grind))))
    refine hK8 _ _ ?_
    try clear hK8 K8
    refine AWp.block ?_
    refine AWp.mask [true, true, true, true, true] rfl ?_
    simp only [go_sem]
    refine AWp.wkS1 5 (.full 2 []) (by simp [go_sem]) rfl ?_
    simp only [go_sem]
    refine AWp.loopS [true, true] [false, false, true, true, true] (fun n lc hc => ∃ (m ln f bf cf : Nat) (acc : List (Tx × Tx)) (q : Tx), n = q.length ∧ EqS lc [(5, mA bf 2 cf acc.length), (6, .d (.int .i64 (f : Nat))), (7, .d (.int .i64 (ln : Nat)))] ∧ EqS hc (⟨mO bf 2 cf (dRows (fldsD acc)) [(b2, ⟨2, 1, [[.nils, .d (.str [])]]⟩)], []⟩) ∧ (q.length ≤ m) ∧ (msgF (m + 1) acc ln q = msgF (s.length + 1) [] 0 s) ∧ (acc.length ≤ 30) ∧ (ln + q.length ≤ 2000) ∧ (FOk acc q.length) ∧ (cf = 0 → acc = []) ∧ ((bf == b2) = false ∧ (b2 == bf) = false) ∧ (q = s.drop f) ∧ (f ≤ s.length)) rfl ?_ ?_
    · refine ⟨_, s.length, 0, 0, (b2 + 1), 0, [], s, rfl, ?_, ?_, ?_, ?_, ?_, ?_, ?_, ?_, ?_, ?_, ?_⟩
      · (try simp only [go_sem, icast, natT, fldsD_len, Nat.zero_add, List.take_length, fb2]) <;> first | exact ⟨rfl⟩ | (constructor; rfl)
      · (try simp only [go_sem, icast, natT, fldsD_len, Nat.zero_add, List.take_length, fb2]) <;> first | exact ⟨rfl⟩ | (constructor; simp [mO, mA, dRows, fldsD]; done)
      all_goals (first | omega | rfl | exact FOk.nil _ | (intro _; rfl) | (simp <;> omega))
    · rintro _ _ _ ⟨m, ln, f, bf, cf, acc, q, rfl, ⟨rfl⟩, ⟨rfl⟩, h1, h2, h3, h4, h5, h6, h7, h8, h9⟩
      simp only [go_sem]
      refine AWp.seq fun K9 hK9 => ?_
      refine AWp.cond _ rfl (fun hc1 => ?_) (fun hc1 => ?_)
      · skip
        try simp only [decide_eq_true_eq, decide_eq_false_iff_not, Bool.not_eq_true', Bool.not_eq_false', Bool.and_eq_true, Bool.or_eq_true, Bool.and_eq_false_iff, Bool.or_eq_false_iff, Int.not_lt, Int.not_le, beq_iff_eq, beq_eq_false_iff_ne, ne_eq, Bool.not_eq_true, Bool.not_eq_false] at hc1
        refine AWp.skip ?_
        refine thenQ_n ?_
        refine hK9 _ _ ?_
        try clear hK9 K9
        refine AWp.seq fun K10 hK10 => ?_
        refine AWp.block ?_
        rcases (show Lib.index q [13, 10] < 0 ∨ 0 ≤ Lib.index q [13, 10] by omega) with hx | hx
        rotate_left
        rcases Nat.eq_zero_or_pos cf with hz | hz
        rotate_right
        · skip
          refine AWp.rs fun K11 hK11 => ?_
          try simp only [go_sem, icast, natT, fldsD_len, Nat.zero_add, List.take_length, fb2, getO_mO h7.1, setO_mO h7.1]
          (repeat (with_reducible refine And.intro ?_ ?_; (first | omega | (intro _; omega) | decide | (exact nfB) | (intro _; exact nfB) | (intro hg; refine ⟨hg, ?_⟩; omega) | (simp; done) | (simp; omega) | (intro hg; simp at hg; done) | (intro hg; simp at hg ⊢; first | omega | exact hg | grind))))
          refine DW.pcr rfl rfl rfl rfl (lineEnd_no T s f (by omega) (by omega) (by rw [← h8]; exact hx)) rfl rfl ?_
          try simp only [go_sem, icast, natT, fldsD_len, Nat.zero_add, List.take_length, fb2, getO_mO h7.1, setO_mO h7.1]
          (repeat (with_reducible refine And.intro ?_ ?_; (first | omega | (intro _; omega) | decide | (exact nfB) | (intro _; exact nfB) | (intro hg; refine ⟨hg, ?_⟩; omega) | (simp; done) | (simp; omega) | (intro hg; simp at hg; done) | (intro hg; simp at hg ⊢; first | omega | exact hg | grind))))
          refine hK11 _ _ ?_
          try clear hK11 K11
          refine AWp.seq fun K12 hK12 => ?_
          refine AWp.rs fun K13 hK13 => ?_
          try simp only [go_sem, icast, natT, fldsD_len, Nat.zero_add, List.take_length, fb2, getO_mO h7.1, setO_mO h7.1]
          (repeat (with_reducible refine And.intro ?_ ?_; (first | omega | (intro _; omega) | decide | (exact nfB) | (intro _; exact nfB) | (intro hg; refine ⟨hg, ?_⟩; omega) | (simp; done) | (simp; omega) | (intro hg; simp at hg; done) | (intro hg; simp at hg ⊢; first | omega | exact hg | grind))))
          refine hK13 _ _ ?_
          try clear hK13 K13
          refine AWp.mask [true, true, true, true, true, true, false, false, false, false, true] rfl ?_
          simp only [go_sem]
          refine AWp.cond _ rfl (fun hc2 => ?_) (fun hc2 => ?_)
          · skip
            try simp only [decide_eq_true_eq, decide_eq_false_iff_not, Bool.not_eq_true', Bool.not_eq_false', Bool.and_eq_true, Bool.or_eq_true, Bool.and_eq_false_iff, Bool.or_eq_false_iff, Int.not_lt, Int.not_le, beq_iff_eq, beq_eq_false_iff_ne, ne_eq, Bool.not_eq_true, Bool.not_eq_false] at hc2
            refine AWp.rs fun K14 hK14 => ?_
            try simp only [go_sem, icast, natT, fldsD_len, Nat.zero_add, List.take_length, fb2, getO_mO h7.1, setO_mO h7.1]
            (repeat (with_reducible refine And.intro ?_ ?_; (first | omega | (intro _; omega) | decide | (exact nfB) | (intro _; exact nfB) | (intro hg; refine ⟨hg, ?_⟩; omega) | (simp; done) | (simp; omega) | (intro hg; simp at hg; done) | (intro hg; simp at hg ⊢; first | omega | exact hg | grind))))
            refine hK14 _ _ ?_
            try clear hK14 K14
            refine AWp.mask [false, true, true, true] rfl ?_
            simp only [go_sem]
            refine AWp.ret ?_
            try simp only [go_sem, icast, natT, fldsD_len, Nat.zero_add, List.take_length, fb2, getO_mO h7.1, setO_mO h7.1]
            rw [msgV_of hle0 h2 (ms_short hx)]; simp [LeA, LeL, LeD, fldsD]
          · skip
            exact absurd hc2 (by simp)
        · skip
          obtain ⟨e, he⟩ := Int.eq_ofNat_of_zero_le hx
          have hle := lix he
          simp only [List.length_cons, List.length_nil] at hle
          have htl := tk_len q e (by omega)
          have hfl : q.length = s.length - f := by rw [h8, List.length_drop]
          subst hz
          obtain rfl : acc = [] := h6 rfl
          simp only [mA_nil, mO_nil]
          refine AWp.rs fun K11 hK11 => ?_
          try simp only [go_sem, icast, natT, fldsD_len, Nat.zero_add, List.take_length, fb2]
          (repeat (with_reducible refine And.intro ?_ ?_; (first | omega | (intro _; omega) | decide | (exact nfB) | (intro _; exact nfB) | (intro hg; refine ⟨hg, ?_⟩; omega) | (simp; done) | (simp; omega) | (intro hg; simp at hg; done) | (intro hg; simp at hg ⊢; first | omega | exact hg | grind))))
          refine DW.pcr rfl rfl rfl rfl (lineEnd_yes T s f (by omega) (by omega) e (by rw [← h8]; exact he)) rfl rfl ?_
          try simp only [go_sem, icast, natT, fldsD_len, Nat.zero_add, List.take_length, fb2]
          (repeat (with_reducible refine And.intro ?_ ?_; (first | omega | (intro _; omega) | decide | (exact nfB) | (intro _; exact nfB) | (intro hg; refine ⟨hg, ?_⟩; omega) | (simp; done) | (simp; omega) | (intro hg; simp at hg; done) | (intro hg; simp at hg ⊢; first | omega | exact hg | grind))))
          refine hK11 _ _ ?_
          try clear hK11 K11
          refine AWp.seq fun K15 hK15 => ?_
          refine AWp.rs fun K16 hK16 => ?_
          try simp only [go_sem, icast, natT, fldsD_len, Nat.zero_add, List.take_length, fb2]
          (repeat (with_reducible refine And.intro ?_ ?_; (first | omega | (intro _; omega) | decide | (exact nfB) | (intro _; exact nfB) | (intro hg; refine ⟨hg, ?_⟩; omega) | (simp; done) | (simp; omega) | (intro hg; simp at hg; done) | (intro hg; simp at hg ⊢; first | omega | exact hg | grind))))
          refine hK16 _ _ ?_
          try clear hK16 K16
          refine AWp.mask [true, true, true, true, true, true, false, false, false, false, true] rfl ?_
          simp only [go_sem]
          refine AWp.cond _ rfl (fun hc2 => ?_) (fun hc2 => ?_)
          · skip
            exfalso
            simp only [decide_eq_true_eq] at hc2
            omega
          · skip
            try simp only [decide_eq_true_eq, decide_eq_false_iff_not, Bool.not_eq_true', Bool.not_eq_false', Bool.and_eq_true, Bool.or_eq_true, Bool.and_eq_false_iff, Bool.or_eq_false_iff, Int.not_lt, Int.not_le, beq_iff_eq, beq_eq_false_iff_ne, ne_eq, Bool.not_eq_true, Bool.not_eq_false] at hc2
            refine AWp.skip ?_
            refine thenQ_n ?_
            refine hK15 _ _ ?_
            try clear hK15 K15
            refine AWp.rs fun K17 hK17 => ?_
            try simp only [go_sem, icast, natT, fldsD_len, Nat.zero_add, List.take_length, fb2]
            (repeat (with_reducible refine And.intro ?_ ?_; (first | omega | (intro _; omega) | decide | (exact nfB) | (intro _; exact nfB) | (intro hg; refine ⟨hg, ?_⟩; omega) | (simp; done) | (simp; omega) | (intro hg; simp at hg; done) | (intro hg; simp at hg ⊢; first | omega | exact hg | grind))))
            try simp only [sub_drop, ← h8]
            refine hK17 _ _ ?_
            try clear hK17 K17
            refine AWp.mask [true, true, true, false, true, true, true] rfl ?_
            simp only [go_sem]
            refine AWp.rs fun K18 hK18 => ?_
            try simp only [go_sem, icast, natT, fldsD_len, Nat.zero_add, List.take_length, fb2]
            (repeat (with_reducible refine And.intro ?_ ?_; (first | omega | (intro _; omega) | decide | (exact nfB) | (intro _; exact nfB) | (intro hg; refine ⟨hg, ?_⟩; omega) | (simp; done) | (simp; omega) | (intro hg; simp at hg; done) | (intro hg; simp at hg ⊢; first | omega | exact hg | grind))))
            refine hK18 _ _ ?_
            try clear hK18 K18
            refine AWp.seq fun K19 hK19 => ?_
            refine AWp.rs fun K20 hK20 => ?_
            try simp only [go_sem, icast, natT, fldsD_len, Nat.zero_add, List.take_length, fb2]
            (repeat (with_reducible refine And.intro ?_ ?_; (first | omega | (intro _; omega) | decide | (exact nfB) | (intro _; exact nfB) | (intro hg; refine ⟨hg, ?_⟩; omega) | (simp; done) | (simp; omega) | (intro hg; simp at hg; done) | (intro hg; simp at hg ⊢; first | omega | exact hg | grind))))
            refine hK20 _ _ ?_
            try clear hK20 K20
            refine AWp.mask [true, true, true, true, true, false, true, false, false, false, true] rfl ?_
            simp only [go_sem]
            refine AWp.cond _ rfl (fun hc3 => ?_) (fun hc3 => ?_)
            · skip
              try simp only [decide_eq_true_eq, decide_eq_false_iff_not, Bool.not_eq_true', Bool.not_eq_false', Bool.and_eq_true, Bool.or_eq_true, Bool.and_eq_false_iff, Bool.or_eq_false_iff, Int.not_lt, Int.not_le, beq_iff_eq, beq_eq_false_iff_ne, ne_eq, Bool.not_eq_true, Bool.not_eq_false] at hc3
              refine AWp.exit ?_
              refine thenQ_e (blkQ_d (by decide) (thenQ_e (thenQ_e (blkQ_e (thenQ_n ?_)))))
              refine hK7 _ _ ?_
              try clear hK7 K7
              refine AWp.wkS1 5 (.d (.slc 2 (fldsD []))) (by simp [go_sem, fldsD]) rfl ?_
              simp only [go_sem]
              · skip
                refine AWp.rs fun K21 hK21 => ?_
                try simp only [go_sem, icast, natT, fldsD_len, Nat.zero_add, List.take_length, fb2]
                (repeat (with_reducible refine And.intro ?_ ?_; (first | omega | (intro _; omega) | decide | (exact nfB) | (intro _; exact nfB) | (intro hg; refine ⟨hg, ?_⟩; omega) | (simp; done) | (simp; omega) | (intro hg; simp at hg; done) | (intro hg; simp at hg ⊢; first | omega | exact hg | grind))))
                intro b11
                first | intro fb11 | have fb11 := True.intro
                try simp only [freshL] at fb11
                try simp only [go_sem, icast, natT, fldsD_len, Nat.zero_add, List.take_length, fb2, fb11]
                (repeat (with_reducible refine And.intro ?_ ?_; (first | omega | (intro _; omega) | decide | (exact nfB) | (intro _; exact nfB) | (intro hg; refine ⟨hg, ?_⟩; omega) | (simp; done) | (simp; omega) | (intro hg; simp at hg; done) | (intro hg; simp at hg ⊢; first | omega | exact hg | grind))))
                refine hK21 _ _ ?_
                try clear hK21 K21
                refine AWp.mask [false, true, true, false, false, false, true] rfl ?_
                simp only [go_sem]
                refine AWp.seq fun K22 hK22 => ?_
                refine AWp.rs fun K23 hK23 => ?_
                try simp only [go_sem, icast, natT, fldsD_len, Nat.zero_add, List.take_length, fb2, fb11]
                (repeat (with_reducible refine And.intro ?_ ?_; (first | omega | (intro _; omega) | decide | (exact nfB) | (intro _; exact nfB) | (intro hg; refine ⟨hg, ?_⟩; omega) | (simp; done) | (simp; omega) | (intro hg; simp at hg; done) | (intro hg; simp at hg ⊢; first | omega | exact hg | grind))))
                refine hK23 _ _ ?_
                try clear hK23 K23
                refine AWp.ownNilH b11 0 0 2 (by (try simp only [go_sem, icast, natT, fldsD_len, Nat.zero_add, List.take_length, fb2, fb11]); rfl) rfl rfl (by decide) fun t0 ft0 => ?_
                try simp only [freshT] at ft0
                simp only [go_sem, icast, natT, fldsD_len, Nat.zero_add, List.take_length, fb2, fb11, ft0]
                refine AWp.block ?_
                refine AWp.loopS [true, true, true] [false, false, false, true] (fun n lc hc => ∃ (k v : Nat), n = ([] : List (Tx × Tx)).length - k ∧ EqS lc [(12, .d (.int .i64 (k : Nat)))] ∧ EqS hc (⟨[(b11, ⟨2, 1, [[.own v 2 (fldsD ((([] : List (Tx × Tx)).take k).map trF)), .d (.str (q.drop (e + 2)))]]⟩), (b2, ⟨2, 1, [[.nils, .d (.str [])]]⟩)], [v]⟩) ∧ (k ≤ ([] : List (Tx × Tx)).length)) rfl ?_ ?_
                · refine ⟨_, 0, t0, rfl, ?_, ?_, ?_⟩
                  · (try simp only [go_sem, icast, natT, fldsD_len, Nat.zero_add, List.take_length, fb2, fb11, ft0]) <;> first | exact ⟨rfl⟩ | (constructor; simp; done)
                  · (try simp only [go_sem, icast, natT, fldsD_len, Nat.zero_add, List.take_length, fb2, fb11, ft0]) <;> first | exact ⟨rfl⟩ | (constructor; simp [fldsD]; rw [h8, List.drop_drop]; congr 1 <;> omega)
                  all_goals (omega)
                · rintro _ _ _ ⟨k, v, rfl, ⟨rfl⟩, ⟨rfl⟩, g1⟩
                  simp only [go_sem]
                  refine AWp.seq fun K24 hK24 => ?_
                  refine AWp.rs fun K25 hK25 => ?_
                  try simp only [go_sem, icast, natT, fldsD_len, Nat.zero_add, List.take_length, fb2, fb11, ft0]
                  (repeat (with_reducible refine And.intro ?_ ?_; (first | omega | (intro _; omega) | decide | (exact nfB) | (intro _; exact nfB) | (intro hg; refine ⟨hg, ?_⟩; omega) | (simp; done) | (simp; omega) | (intro hg; simp at hg; done) | (intro hg; simp at hg ⊢; first | omega | exact hg | grind))))
                  refine hK25 _ _ ?_
                  try clear hK25 K25
                  refine AWp.cond _ rfl (fun hc7 => ?_) (fun hc7 => ?_)
                  · skip
                    exfalso
                    simp at hc7
                    omega
                  · skip
                    try simp only [decide_eq_true_eq, decide_eq_false_iff_not, Bool.not_eq_true', Bool.not_eq_false', Bool.and_eq_true, Bool.or_eq_true, Bool.and_eq_false_iff, Bool.or_eq_false_iff, Int.not_lt, Int.not_le, beq_iff_eq, beq_eq_false_iff_ne, ne_eq, Bool.not_eq_true, Bool.not_eq_false] at hc7
                    refine AWp.exit ?_
                    refine thenQ_e (thenQ_e (blkQ_e (thenQ_n ?_)))
                    refine hK22 _ _ ?_
                    try clear hK22 K22
                    refine AWp.mask [true, false, true] rfl ?_
                    simp only [go_sem]
                    refine AWp.rs fun K26 hK26 => ?_
                    try simp only [go_sem, icast, natT, fldsD_len, Nat.zero_add, List.take_length, fb2, fb11, ft0]
                    (repeat (with_reducible refine And.intro ?_ ?_; (first | omega | (intro _; omega) | decide | (exact nfB) | (intro _; exact nfB) | (intro hg; refine ⟨hg, ?_⟩; omega) | (simp; done) | (simp; omega) | (intro hg; simp at hg; done) | (intro hg; simp at hg ⊢; first | omega | exact hg | grind))))
                    refine hK26 _ _ ?_
                    try clear hK26 K26
                    refine AWp.ret ?_
                    try simp only [go_sem, icast, natT, fldsD_len, Nat.zero_add, List.take_length, fb2, fb11, ft0]
                    have hk0 : k = 0 := by simpa using g1
                    subst hk0
                    rw [msgV_of hle0 h2 (ms_end he hc3)]; exact ⟨⟨rfl, rfl⟩, rfl, rfl⟩
            · skip
              try simp only [decide_eq_true_eq, decide_eq_false_iff_not, Bool.not_eq_true', Bool.not_eq_false', Bool.and_eq_true, Bool.or_eq_true, Bool.and_eq_false_iff, Bool.or_eq_false_iff, Int.not_lt, Int.not_le, beq_iff_eq, beq_eq_false_iff_ne, ne_eq, Bool.not_eq_true, Bool.not_eq_false] at hc3
              have htn : ¬ q.take e = [] := by simpa using hc3
              have htp : 0 < (q.take e).length := List.length_pos_iff.2 htn
              refine AWp.skip ?_
              refine thenQ_n ?_
              refine hK19 _ _ ?_
              try clear hK19 K19
              refine AWp.seq fun K27 hK27 => ?_
              refine AWp.rs fun K28 hK28 => ?_
              try simp only [go_sem, icast, natT, fldsD_len, Nat.zero_add, List.take_length, fb2]
              (repeat (with_reducible refine And.intro ?_ ?_; (first | omega | (intro _; omega) | decide | (exact nfB) | (intro _; exact nfB) | (intro hg; refine ⟨hg, ?_⟩; omega) | (simp; done) | (simp; omega) | (intro hg; simp at hg; done) | (intro hg; simp at hg ⊢; first | omega | exact hg | grind))))
              refine DW.pcr rfl rfl rfl rfl (lblank_c T _) rfl rfl ?_
              try simp only [go_sem, icast, natT, fldsD_len, Nat.zero_add, List.take_length, fb2]
              (repeat (with_reducible refine And.intro ?_ ?_; (first | omega | (intro _; omega) | decide | (exact nfB) | (intro _; exact nfB) | (intro hg; refine ⟨hg, ?_⟩; omega) | (simp; done) | (simp; omega) | (intro hg; simp at hg; done) | (intro hg; simp at hg ⊢; first | omega | exact hg | grind))))
              refine hK28 _ _ ?_
              try clear hK28 K28
              refine AWp.mask [true, true, true, true, true, true, false, false, false, false, false, false, false, false, true] rfl ?_
              simp only [go_sem]
              refine AWp.cond _ rfl (fun hc4 => ?_) (fun hc4 => ?_)
              · skip
                exfalso
                simp at hc4
              · skip
                try simp only [decide_eq_true_eq, decide_eq_false_iff_not, Bool.not_eq_true', Bool.not_eq_false', Bool.and_eq_true, Bool.or_eq_true, Bool.and_eq_false_iff, Bool.or_eq_false_iff, Int.not_lt, Int.not_le, beq_iff_eq, beq_eq_false_iff_ne, ne_eq, Bool.not_eq_true, Bool.not_eq_false] at hc4
                have hnb : ¬ (isBl ((q.take e).getD 0 0) = true ∧ 0 < ([] : List (Tx × Tx)).length) := by simp
                refine AWp.skip ?_
                refine thenQ_n ?_
                refine hK27 _ _ ?_
                try clear hK27 K27
                rcases (show Lib.index (q.take e) [58] < 0 ∨ 0 ≤ Lib.index (q.take e) [58] by omega) with hy | hy
                · skip
                  refine AWp.rs fun K29 hK29 => ?_
                  try simp only [go_sem, icast, natT, fldsD_len, Nat.zero_add, List.take_length, fb2]
                  (repeat (with_reducible refine And.intro ?_ ?_; (first | omega | (intro _; omega) | decide | (exact nfB) | (intro _; exact nfB) | (intro hg; refine ⟨hg, ?_⟩; omega) | (simp; done) | (simp; omega) | (intro hg; simp at hg; done) | (intro hg; simp at hg ⊢; first | omega | exact hg | grind))))
                  refine DW.pcr rfl rfl rfl rfl (colonAt_x T (q.take e) (by omega) _ rfl) rfl rfl ?_
                  try simp only [go_sem, icast, natT, fldsD_len, Nat.zero_add, List.take_length, fb2]
                  (repeat (with_reducible refine And.intro ?_ ?_; (first | omega | (intro _; omega) | decide | (exact nfB) | (intro _; exact nfB) | (intro hg; refine ⟨hg, ?_⟩; omega) | (simp; done) | (simp; omega) | (intro hg; simp at hg; done) | (intro hg; simp at hg ⊢; first | omega | exact hg | grind))))
                  refine hK29 _ _ ?_
                  try clear hK29 K29
                  refine AWp.seq fun K30 hK30 => ?_
                  refine AWp.rs fun K31 hK31 => ?_
                  try simp only [go_sem, icast, natT, fldsD_len, Nat.zero_add, List.take_length, fb2]
                  (repeat (with_reducible refine And.intro ?_ ?_; (first | omega | (intro _; omega) | decide | (exact nfB) | (intro _; exact nfB) | (intro hg; refine ⟨hg, ?_⟩; omega) | (simp; done) | (simp; omega) | (intro hg; simp at hg; done) | (intro hg; simp at hg ⊢; first | omega | exact hg | grind))))
                  refine DW.pcgr rfl rfl rfl rfl rfl (fun hg => nameMay_c T (List.take (Lib.index (q.take e) [58]).toNat (q.take e)) (by simp only [List.length_take]; omega)) (fun hg => by (try simp only [go_sem, icast, natT, fldsD_len, Nat.zero_add, List.take_length, fb2]) <;> first | exact hg | (exfalso; simp at hg; done) | (simpa using hg) | grind) rfl rfl ?_
                  try simp only [go_sem, icast, natT, fldsD_len, Nat.zero_add, List.take_length, fb2]
                  (repeat (with_reducible refine And.intro ?_ ?_; (first | omega | (intro _; omega) | decide | (exact nfB) | (intro _; exact nfB) | (intro hg; refine ⟨hg, ?_⟩; omega) | (simp; done) | (simp; omega) | (intro hg; simp at hg; done) | (intro hg; simp at hg ⊢; first | omega | exact hg | grind))))
                  refine hK31 _ _ ?_
                  try clear hK31 K31
                  refine AWp.mask [true, true, true, true, true, true, true, false, false, false, false, false, false, false, false, false, false, false, true] rfl ?_
                  simp only [go_sem]
                  refine AWp.cond _ rfl (fun hc5 => ?_) (fun hc5 => ?_)
                  · skip
                    try simp only [decide_eq_true_eq, decide_eq_false_iff_not, Bool.not_eq_true', Bool.not_eq_false', Bool.and_eq_true, Bool.or_eq_true, Bool.and_eq_false_iff, Bool.or_eq_false_iff, Int.not_lt, Int.not_le, beq_iff_eq, beq_eq_false_iff_ne, ne_eq, Bool.not_eq_true, Bool.not_eq_false] at hc5
                    refine AWp.rs fun K32 hK32 => ?_
                    try simp only [go_sem, icast, natT, fldsD_len, Nat.zero_add, List.take_length, fb2]
                    (repeat (with_reducible refine And.intro ?_ ?_; (first | omega | (intro _; omega) | decide | (exact nfB) | (intro _; exact nfB) | (intro hg; refine ⟨hg, ?_⟩; omega) | (simp; done) | (simp; omega) | (intro hg; simp at hg; done) | (intro hg; simp at hg ⊢; first | omega | exact hg | grind))))
                    refine hK32 _ _ ?_
                    try clear hK32 K32
                    refine AWp.mask [false, true, true, true] rfl ?_
                    simp only [go_sem]
                    refine AWp.ret ?_
                    try simp only [go_sem, icast, natT, fldsD_len, Nat.zero_add, List.take_length, fb2]
                    rw [msgV_of hle0 h2 (ms_form1 he htn hnb hy)]; simp [LeA, LeL, LeD, fldsD]
                  · skip
                    exfalso
                    simp [hy] at hc5
                · skip
                  obtain ⟨c, hc⟩ := Int.eq_ofNat_of_zero_le hy
                  have hcl := lix hc
                  simp only [List.length_cons, List.length_nil] at hcl
                  refine AWp.rs fun K29 hK29 => ?_
                  try simp only [go_sem, icast, natT, fldsD_len, Nat.zero_add, List.take_length, fb2]
                  (repeat (with_reducible refine And.intro ?_ ?_; (first | omega | (intro _; omega) | decide | (exact nfB) | (intro _; exact nfB) | (intro hg; refine ⟨hg, ?_⟩; omega) | (simp; done) | (simp; omega) | (intro hg; simp at hg; done) | (intro hg; simp at hg ⊢; first | omega | exact hg | grind))))
                  refine DW.pcr rfl rfl rfl rfl (colonAt_x T (q.take e) (by omega) _ hc) rfl rfl ?_
                  try simp only [go_sem, icast, natT, fldsD_len, Nat.zero_add, List.take_length, fb2]
                  (repeat (with_reducible refine And.intro ?_ ?_; (first | omega | (intro _; omega) | decide | (exact nfB) | (intro _; exact nfB) | (intro hg; refine ⟨hg, ?_⟩; omega) | (simp; done) | (simp; omega) | (intro hg; simp at hg; done) | (intro hg; simp at hg ⊢; first | omega | exact hg | grind))))
                  refine hK29 _ _ ?_
                  try clear hK29 K29
                  refine AWp.seq fun K33 hK33 => ?_
                  refine AWp.rs fun K34 hK34 => ?_
                  try simp only [go_sem, icast, natT, fldsD_len, Nat.zero_add, List.take_length, fb2]
                  (repeat (with_reducible refine And.intro ?_ ?_; (first | omega | (intro _; omega) | decide | (exact nfB) | (intro _; exact nfB) | (intro hg; refine ⟨hg, ?_⟩; omega) | (simp; done) | (simp; omega) | (intro hg; simp at hg; done) | (intro hg; simp at hg ⊢; first | omega | exact hg | grind))))
                  refine DW.pcgr rfl rfl rfl rfl rfl (fun hg => nameMay_c T ((q.take e).take c) (by simp only [List.length_take]; omega)) (fun hg => by (try simp only [go_sem, icast, natT, fldsD_len, Nat.zero_add, List.take_length, fb2]) <;> first | exact hg | (exfalso; simp at hg; done) | (simpa using hg) | grind) rfl rfl ?_
                  try simp only [go_sem, icast, natT, fldsD_len, Nat.zero_add, List.take_length, fb2]
                  (repeat (with_reducible refine And.intro ?_ ?_; (first | omega | (intro _; omega) | decide | (exact nfB) | (intro _; exact nfB) | (intro hg; refine ⟨hg, ?_⟩; omega) | (simp; done) | (simp; omega) | (intro hg; simp at hg; done) | (intro hg; simp at hg ⊢; first | omega | exact hg | grind))))
                  refine hK34 _ _ ?_
                  try clear hK34 K34
                  refine AWp.mask [true, true, true, true, true, true, true, false, false, false, false, false, false, false, false, false, false, false, true] rfl ?_
                  simp only [go_sem]
                  refine AWp.cond _ rfl (fun hc5 => ?_) (fun hc5 => ?_)
                  · skip
                    try simp only [decide_eq_true_eq, decide_eq_false_iff_not, Bool.not_eq_true', Bool.not_eq_false', Bool.and_eq_true, Bool.or_eq_true, Bool.and_eq_false_iff, Bool.or_eq_false_iff, Int.not_lt, Int.not_le, beq_iff_eq, beq_eq_false_iff_ne, ne_eq, Bool.not_eq_true, Bool.not_eq_false] at hc5
                    refine AWp.rs fun K35 hK35 => ?_
                    try simp only [go_sem, icast, natT, fldsD_len, Nat.zero_add, List.take_length, fb2]
                    (repeat (with_reducible refine And.intro ?_ ?_; (first | omega | (intro _; omega) | decide | (exact nfB) | (intro _; exact nfB) | (intro hg; refine ⟨hg, ?_⟩; omega) | (simp; done) | (simp; omega) | (intro hg; simp at hg; done) | (intro hg; simp at hg ⊢; first | omega | exact hg | grind))))
                    refine hK35 _ _ ?_
                    try clear hK35 K35
                    refine AWp.mask [false, true, true, true] rfl ?_
                    simp only [go_sem]
                    refine AWp.ret ?_
                    try simp only [go_sem, icast, natT, fldsD_len, Nat.zero_add, List.take_length, fb2]
                    rw [msgV_of hle0 h2 (ms_form2 he htn hnb hc (hc5.resolve_left (by omega)))]; simp [LeA, LeL, LeD, fldsD]
                  · skip
                    try simp only [decide_eq_true_eq, decide_eq_false_iff_not, Bool.not_eq_true', Bool.not_eq_false', Bool.and_eq_true, Bool.or_eq_true, Bool.and_eq_false_iff, Bool.or_eq_false_iff, Int.not_lt, Int.not_le, beq_iff_eq, beq_eq_false_iff_ne, ne_eq, Bool.not_eq_true, Bool.not_eq_false] at hc5
                    have hnm : nmL ((q.take e).take c) = true := by simpa using hc5
                    refine AWp.skip ?_
                    refine thenQ_n ?_
                    refine hK33 _ _ ?_
                    try clear hK33 K33
                    refine AWp.seq fun K36 hK36 => ?_
                    refine AWp.rs fun K37 hK37 => ?_
                    try simp only [go_sem, icast, natT, fldsD_len, Nat.zero_add, List.take_length, fb2]
                    (repeat (with_reducible refine And.intro ?_ ?_; (first | omega | (intro _; omega) | decide | (exact nfB) | (intro _; exact nfB) | (intro hg; refine ⟨hg, ?_⟩; omega) | (simp; done) | (simp; omega) | (intro hg; simp at hg; done) | (intro hg; simp at hg ⊢; first | omega | exact hg | grind))))
                    refine hK37 _ _ ?_
                    try clear hK37 K37
                    refine AWp.cond _ rfl (fun hc6 => ?_) (fun hc6 => ?_)
                    · skip
                      exfalso
                      simp at hc6
                    · skip
                      try simp only [decide_eq_true_eq, decide_eq_false_iff_not, Bool.not_eq_true', Bool.not_eq_false', Bool.and_eq_true, Bool.or_eq_true, Bool.and_eq_false_iff, Bool.or_eq_false_iff, Int.not_lt, Int.not_le, beq_iff_eq, beq_eq_false_iff_ne, ne_eq, Bool.not_eq_true, Bool.not_eq_false] at hc6
                      refine AWp.skip ?_
                      refine thenQ_n ?_
                      refine hK36 _ _ ?_
                      try clear hK36 K36
                      refine AWp.mask [true, true, true, true, true, true, true] rfl ?_
                      simp only [go_sem]
                      refine AWp.dk true [0, 1, 2, 3, 4, 5, 6, 7, 8, 9, 10, 11] rfl (by kernel_rfl) fun K38 hK38 => ?_
                      try simp only [go_sem, icast, natT, fldsD_len, Nat.zero_add, List.take_length, fb2]
                      (repeat (with_reducible refine And.intro ?_ ?_; (first | omega | (intro _; omega) | decide | (exact nfB) | (intro _; exact nfB) | (intro hg; refine ⟨hg, ?_⟩; omega) | (simp; done) | (simp; omega) | (intro hg; simp at hg; done) | (intro hg; simp at hg ⊢; first | omega | exact hg | grind))))
                      refine DW.appM (b0 := 0) (c0 := 0) (rows := []) rfl rfl rfl rfl (fun _ => rfl) rfl (show slI Tryd.prog 62 = some (118, 2, 32) by simp only [go_sem]) rfl rfl (by simp) rfl (by first | decide | (simp; done) | omega) (by first | omega | (simp only [go_sem] <;> omega) | (simp only [go_sem, List.length_take, List.length_map, List.length_append, List.length_cons, List.length_nil] <;> omega) | (simp <;> omega)) (by first | omega | (simp only [go_sem] <;> omega) | (simp only [go_sem, List.length_take, List.length_map, List.length_append, List.length_cons, List.length_nil] <;> omega) | (simp <;> omega)) fun bm1 cm1 hcm1 fbm1 => ?_
                      try simp only [freshL] at fbm1
                      try simp only [go_sem, icast, natT, fldsD_len, Nat.zero_add, List.take_length, fb2, fbm1]
                      (repeat (with_reducible refine And.intro ?_ ?_; (first | omega | (intro _; omega) | decide | (exact nfB) | (intro _; exact nfB) | (intro hg; refine ⟨hg, ?_⟩; omega) | (simp; done) | (simp; omega) | (intro hg; simp at hg; done) | (intro hg; simp at hg ⊢; first | omega | exact hg | grind))))
                      refine hK38 _ _ ?_
                      try clear hK38 K38
                      refine blkQ_n (thenQ_n ?_)
                      refine hK10 _ _ ?_
                      try clear hK10 K10
                      refine AWp.mask [true, true, true, true, true] rfl ?_
                      simp only [go_sem]
                      refine AWp.rk fun K39 hK39 => ?_
                      try simp only [go_sem, icast, natT, fldsD_len, Nat.zero_add, List.take_length, fb2, fbm1]
                      (repeat (with_reducible refine And.intro ?_ ?_; (first | omega | (intro _; omega) | decide | (exact nfB) | (intro _; exact nfB) | (intro hg; refine ⟨hg, ?_⟩; omega) | (simp; done) | (simp; omega) | (intro hg; simp at hg; done) | (intro hg; simp at hg ⊢; first | omega | exact hg | grind))))
                      refine hK39 _ _ ?_
                      try clear hK39 K39
                      refine thenQ_n ?_
                      refine EndS.mkr [true, true] [false, false, true, true, true] rfl ?_ ?_
                      · (try simp only [go_sem, icast, natT, fldsD_len, Nat.zero_add, List.take_length, fb2, fbm1]) <;> try rfl
                      refine .e ⟨_, ?_, (m - 1), (ln + 1), (f + (e + 2)), bm1, cm1, (([] : List (Tx × Tx)) ++ [((q.take e).take c, (q.take e).drop (c + 1))]), (q.drop (e + 2)), rfl, ?_, ?_, ?_, ?_, ?_, ?_, ?_, ?_, ?_, ?_, ?_⟩
                      · first | omega | (simp; omega) | (rw [List.length_drop]; omega)
                      · (try simp only [go_sem, icast, natT, fldsD_len, Nat.zero_add, List.take_length, fb2, fbm1]) <;> first | exact ⟨rfl⟩ | (constructor; simp [mA_pos hcm1] <;> omega)
                      · (try simp only [go_sem, icast, natT, fldsD_len, Nat.zero_add, List.take_length, fb2, fbm1]) <;> first | exact ⟨rfl⟩ | (constructor; rw [mO_pos hcm1]; simp [dRows, fldsD, fldD]; done)
                      · rw [List.length_drop]; omega
                      · rw [show m - 1 + 1 = m by omega, ← ms_add he htn hnb hc hnm (by first | omega | (simp; done))]; exact h2
                      · (simp <;> omega)
                      · rw [List.length_drop]; omega
                      · exact h5.add (by rw [List.length_drop]; omega) (by simp; omega) (by rw [List.length_drop, List.length_drop]; omega)
                      · intro hq; omega
                      · simp_all [freshL]; done
                      · rw [h8, List.drop_drop]
                      · omega
        · skip
          obtain ⟨e, he⟩ := Int.eq_ofNat_of_zero_le hx
          have hle := lix he
          simp only [List.length_cons, List.length_nil] at hle
          have htl := tk_len q e (by omega)
          have hfl : q.length = s.length - f := by rw [h8, List.length_drop]
          simp only [mA_pos hz, mO_pos hz]
          refine AWp.rs fun K11 hK11 => ?_
          try simp only [go_sem, icast, natT, fldsD_len, Nat.zero_add, List.take_length, fb2, h7]
          (repeat (with_reducible refine And.intro ?_ ?_; (first | omega | (intro _; omega) | decide | (exact nfB) | (intro _; exact nfB) | (intro hg; refine ⟨hg, ?_⟩; omega) | (simp; done) | (simp; omega) | (intro hg; simp at hg; done) | (intro hg; simp at hg ⊢; first | omega | exact hg | grind))))
          refine DW.pcr rfl rfl rfl rfl (lineEnd_yes T s f (by omega) (by omega) e (by rw [← h8]; exact he)) rfl rfl ?_
          try simp only [go_sem, icast, natT, fldsD_len, Nat.zero_add, List.take_length, fb2, h7]
          (repeat (with_reducible refine And.intro ?_ ?_; (first | omega | (intro _; omega) | decide | (exact nfB) | (intro _; exact nfB) | (intro hg; refine ⟨hg, ?_⟩; omega) | (simp; done) | (simp; omega) | (intro hg; simp at hg; done) | (intro hg; simp at hg ⊢; first | omega | exact hg | grind))))
          refine hK11 _ _ ?_
          try clear hK11 K11
          refine AWp.seq fun K40 hK40 => ?_
          refine AWp.rs fun K41 hK41 => ?_
          try simp only [go_sem, icast, natT, fldsD_len, Nat.zero_add, List.take_length, fb2, h7]
          (repeat (with_reducible refine And.intro ?_ ?_; (first | omega | (intro _; omega) | decide | (exact nfB) | (intro _; exact nfB) | (intro hg; refine ⟨hg, ?_⟩; omega) | (simp; done) | (simp; omega) | (intro hg; simp at hg; done) | (intro hg; simp at hg ⊢; first | omega | exact hg | grind))))
          refine hK41 _ _ ?_
          try clear hK41 K41
          refine AWp.mask [true, true, true, true, true, true, false, false, false, false, true] rfl ?_
          simp only [go_sem]
          refine AWp.cond _ rfl (fun hc2 => ?_) (fun hc2 => ?_)
          · skip
            exfalso
            simp only [decide_eq_true_eq] at hc2
            omega
          · skip
            try simp only [decide_eq_true_eq, decide_eq_false_iff_not, Bool.not_eq_true', Bool.not_eq_false', Bool.and_eq_true, Bool.or_eq_true, Bool.and_eq_false_iff, Bool.or_eq_false_iff, Int.not_lt, Int.not_le, beq_iff_eq, beq_eq_false_iff_ne, ne_eq, Bool.not_eq_true, Bool.not_eq_false] at hc2
            refine AWp.skip ?_
            refine thenQ_n ?_
            refine hK40 _ _ ?_
            try clear hK40 K40
            refine AWp.rs fun K42 hK42 => ?_
            try simp only [go_sem, icast, natT, fldsD_len, Nat.zero_add, List.take_length, fb2, h7]
            (repeat (with_reducible refine And.intro ?_ ?_; (first | omega | (intro _; omega) | decide | (exact nfB) | (intro _; exact nfB) | (intro hg; refine ⟨hg, ?_⟩; omega) | (simp; done) | (simp; omega) | (intro hg; simp at hg; done) | (intro hg; simp at hg ⊢; first | omega | exact hg | grind))))
            try simp only [sub_drop, ← h8]
            refine hK42 _ _ ?_
            try clear hK42 K42
            refine AWp.mask [true, true, true, false, true, true, true] rfl ?_
            simp only [go_sem]
            refine AWp.rs fun K43 hK43 => ?_
            try simp only [go_sem, icast, natT, fldsD_len, Nat.zero_add, List.take_length, fb2, h7]
            (repeat (with_reducible refine And.intro ?_ ?_; (first | omega | (intro _; omega) | decide | (exact nfB) | (intro _; exact nfB) | (intro hg; refine ⟨hg, ?_⟩; omega) | (simp; done) | (simp; omega) | (intro hg; simp at hg; done) | (intro hg; simp at hg ⊢; first | omega | exact hg | grind))))
            refine hK43 _ _ ?_
            try clear hK43 K43
            refine AWp.seq fun K44 hK44 => ?_
            refine AWp.rs fun K45 hK45 => ?_
            try simp only [go_sem, icast, natT, fldsD_len, Nat.zero_add, List.take_length, fb2, h7]
            (repeat (with_reducible refine And.intro ?_ ?_; (first | omega | (intro _; omega) | decide | (exact nfB) | (intro _; exact nfB) | (intro hg; refine ⟨hg, ?_⟩; omega) | (simp; done) | (simp; omega) | (intro hg; simp at hg; done) | (intro hg; simp at hg ⊢; first | omega | exact hg | grind))))
            refine hK45 _ _ ?_
            try clear hK45 K45
            refine AWp.mask [true, true, true, true, true, false, true, false, false, false, true] rfl ?_
            simp only [go_sem]
            refine AWp.cond _ rfl (fun hc3 => ?_) (fun hc3 => ?_)
            · skip
              try simp only [decide_eq_true_eq, decide_eq_false_iff_not, Bool.not_eq_true', Bool.not_eq_false', Bool.and_eq_true, Bool.or_eq_true, Bool.and_eq_false_iff, Bool.or_eq_false_iff, Int.not_lt, Int.not_le, beq_iff_eq, beq_eq_false_iff_ne, ne_eq, Bool.not_eq_true, Bool.not_eq_false] at hc3
              refine AWp.exit ?_
              refine thenQ_e (blkQ_d (by decide) (thenQ_e (thenQ_e (blkQ_e (thenQ_n ?_)))))
              refine hK7 _ _ ?_
              try clear hK7 K7
              refine AWp.ownMS 5 rfl rfl (by simp [fldsD]) (by decide) (fld_full _) fun tq ftq => ?_
              simp only [go_sem]
              refine AWp.wkS1 5 (.d (.slc 2 (fldsD acc))) (by simp [go_sem, fldsD]) rfl ?_
              refine AWp.ord [] [tq] [] [] rfl ?_
              simp only [go_sem]
              · skip
                refine AWp.rs fun K46 hK46 => ?_
                try simp only [go_sem, icast, natT, fldsD_len, Nat.zero_add, List.take_length, fb2, h7]
                (repeat (with_reducible refine And.intro ?_ ?_; (first | omega | (intro _; omega) | decide | (exact nfB) | (intro _; exact nfB) | (intro hg; refine ⟨hg, ?_⟩; omega) | (simp; done) | (simp; omega) | (intro hg; simp at hg; done) | (intro hg; simp at hg ⊢; first | omega | exact hg | grind))))
                intro b11
                first | intro fb11 | have fb11 := True.intro
                try simp only [freshL] at fb11
                try simp only [go_sem, icast, natT, fldsD_len, Nat.zero_add, List.take_length, fb2, h7, fb11]
                (repeat (with_reducible refine And.intro ?_ ?_; (first | omega | (intro _; omega) | decide | (exact nfB) | (intro _; exact nfB) | (intro hg; refine ⟨hg, ?_⟩; omega) | (simp; done) | (simp; omega) | (intro hg; simp at hg; done) | (intro hg; simp at hg ⊢; first | omega | exact hg | grind))))
                refine hK46 _ _ ?_
                try clear hK46 K46
                refine AWp.mask [false, true, true, false, false, false, true] rfl ?_
                simp only [go_sem]
                refine AWp.seq fun K47 hK47 => ?_
                refine AWp.rs fun K48 hK48 => ?_
                try simp only [go_sem, icast, natT, fldsD_len, Nat.zero_add, List.take_length, fb2, h7, fb11]
                (repeat (with_reducible refine And.intro ?_ ?_; (first | omega | (intro _; omega) | decide | (exact nfB) | (intro _; exact nfB) | (intro hg; refine ⟨hg, ?_⟩; omega) | (simp; done) | (simp; omega) | (intro hg; simp at hg; done) | (intro hg; simp at hg ⊢; first | omega | exact hg | grind))))
                refine hK48 _ _ ?_
                try clear hK48 K48
                refine AWp.ownNilH b11 0 0 2 (by (try simp only [go_sem, icast, natT, fldsD_len, Nat.zero_add, List.take_length, fb2, h7, fb11]); rfl) rfl rfl (by decide) fun t0 ft0 => ?_
                try simp only [freshT] at ft0
                simp only [go_sem, icast, natT, fldsD_len, Nat.zero_add, List.take_length, fb2, h7, fb11, ft0]
                refine AWp.block ?_
                refine AWp.loopS [true, true, true] [false, false, false, true] (fun n lc hc => ∃ (k v : Nat), n = acc.length - k ∧ EqS lc [(12, .d (.int .i64 (k : Nat)))] ∧ EqS hc (⟨[(b11, ⟨2, 1, [[.own v 2 (fldsD ((acc.take k).map trF)), .d (.str (q.drop (e + 2)))]]⟩), (b2, ⟨2, 1, [[.nils, .d (.str [])]]⟩)], [v]⟩) ∧ (k ≤ acc.length)) rfl ?_ ?_
                · refine ⟨_, 0, t0, rfl, ?_, ?_, ?_⟩
                  · (try simp only [go_sem, icast, natT, fldsD_len, Nat.zero_add, List.take_length, fb2, h7, fb11, ft0]) <;> first | exact ⟨rfl⟩ | (constructor; simp; done)
                  · (try simp only [go_sem, icast, natT, fldsD_len, Nat.zero_add, List.take_length, fb2, h7, fb11, ft0]) <;> first | exact ⟨rfl⟩ | (constructor; simp [fldsD]; rw [h8, List.drop_drop]; congr 1 <;> omega)
                  all_goals (omega)
                · rintro _ _ _ ⟨k, v, rfl, ⟨rfl⟩, ⟨rfl⟩, g1⟩
                  simp only [go_sem]
                  refine AWp.seq fun K49 hK49 => ?_
                  refine AWp.rs fun K50 hK50 => ?_
                  try simp only [go_sem, icast, natT, fldsD_len, Nat.zero_add, List.take_length, fb2, h7, fb11, ft0]
                  (repeat (with_reducible refine And.intro ?_ ?_; (first | omega | (intro _; omega) | decide | (exact nfB) | (intro _; exact nfB) | (intro hg; refine ⟨hg, ?_⟩; omega) | (simp; done) | (simp; omega) | (intro hg; simp at hg; done) | (intro hg; simp at hg ⊢; first | omega | exact hg | grind))))
                  refine hK50 _ _ ?_
                  try clear hK50 K50
                  refine AWp.cond _ rfl (fun hc7 => ?_) (fun hc7 => ?_)
                  · skip
                    try simp only [decide_eq_true_eq, decide_eq_false_iff_not, Bool.not_eq_true', Bool.not_eq_false', Bool.and_eq_true, Bool.or_eq_true, Bool.and_eq_false_iff, Bool.or_eq_false_iff, Int.not_lt, Int.not_le, beq_iff_eq, beq_eq_false_iff_ne, ne_eq, Bool.not_eq_true, Bool.not_eq_false] at hc7
                    have hlt : k < acc.length := by omega
                    have hfk := (h5.get hlt).2
                    refine AWp.skip ?_
                    refine thenQ_n ?_
                    refine hK49 _ _ ?_
                    try clear hK49 K49
                    refine AWp.mask [true, true, true, true] rfl ?_
                    simp only [go_sem]
                    refine AWp.seq fun K51 hK51 => ?_
                    refine AWp.block ?_
                    refine AWp.dk true [0, 1, 2, 3, 4, 5, 6, 7, 8, 9, 10, 11, 12, 13, 14, 15, 16, 17] rfl (by kernel_rfl) fun K52 hK52 => ?_
                    try simp only [go_sem, icast, natT, fldsD_len, Nat.zero_add, List.take_length, fb2, h7, fb11, ft0, fldsD_g2 hlt]
                    (repeat (with_reducible refine And.intro ?_ ?_; (first | omega | (intro _; omega) | decide | (exact nfB) | (intro _; exact nfB) | (intro hg; refine ⟨hg, ?_⟩; omega) | (simp; done) | (simp; omega) | (intro hg; simp at hg; done) | (intro hg; simp at hg ⊢; first | omega | exact hg | grind))))
                    refine DW.pcr rfl rfl rfl rfl (trimmed_c T (acc.getD k ([], [])).2 (by omega)) rfl rfl ?_
                    try simp only [go_sem, icast, natT, fldsD_len, Nat.zero_add, List.take_length, fb2, h7, fb11, ft0, fldsD_g2 hlt]
                    (repeat (with_reducible refine And.intro ?_ ?_; (first | omega | (intro _; omega) | decide | (exact nfB) | (intro _; exact nfB) | (intro hg; refine ⟨hg, ?_⟩; omega) | (simp; done) | (simp; omega) | (intro hg; simp at hg; done) | (intro hg; simp at hg ⊢; first | omega | exact hg | grind))))
                    refine DW.app rfl rfl rfl rfl (show slI Tryd.prog 62 = some (118, 2, 32) by simp only [go_sem]) rfl rfl (by simp only [go_sem, icast, natT, fldsD_len, Nat.zero_add, List.take_length, fb2, h7, fb11, ft0, fldsD_g2 hlt]) (by first | exact .inl rfl | exact .inr rfl) (by (try simp only [go_sem, List.length_take]); omega) (by (try simp only [go_sem, List.length_take]); omega) fun t2 ft2 => ?_
                    try simp only [freshT] at ft2
                    try simp only [go_sem, icast, natT, fldsD_len, Nat.zero_add, List.take_length, fb2, h7, fb11, ft0, fldsD_g2 hlt, ft2]
                    (repeat (with_reducible refine And.intro ?_ ?_; (first | omega | (intro _; omega) | decide | (exact nfB) | (intro _; exact nfB) | (intro hg; refine ⟨hg, ?_⟩; omega) | (simp; done) | (simp; omega) | (intro hg; simp at hg; done) | (intro hg; simp at hg ⊢; first | omega | exact hg | grind))))
                    refine hK52 _ _ ?_
                    try clear hK52 K52
                    refine blkQ_n (thenQ_n ?_)
                    refine hK51 _ _ ?_
                    try clear hK51 K51
                    refine AWp.mask [true, true, true, true] rfl ?_
                    simp only [go_sem]
                    refine AWp.rk fun K53 hK53 => ?_
                    try simp only [go_sem, icast, natT, fldsD_len, Nat.zero_add, List.take_length, fb2, h7, fb11, ft0, fldsD_g2 hlt, ft2]
                    (repeat (with_reducible refine And.intro ?_ ?_; (first | omega | (intro _; omega) | decide | (exact nfB) | (intro _; exact nfB) | (intro hg; refine ⟨hg, ?_⟩; omega) | (simp; done) | (simp; omega) | (intro hg; simp at hg; done) | (intro hg; simp at hg ⊢; first | omega | exact hg | grind))))
                    refine hK53 _ _ ?_
                    try clear hK53 K53
                    refine thenQ_n ?_
                    refine EndS.mk [true, true, true] [false, false, false, true] [] [] [b11, b2] [t2] rfl ?_ ?_
                    · (try simp only [go_sem, icast, natT, fldsD_len, Nat.zero_add, List.take_length, fb2, h7, fb11, ft0, fldsD_g2 hlt, ft2]) <;> try rfl
                    refine .e ⟨_, ?_, k + 1, t2, rfl, ?_, ?_, ?_⟩
                    · first | omega | (simp; omega) | (grind)
                    · (try simp only [go_sem, icast, natT, fldsD_len, Nat.zero_add, List.take_length, fb2, h7, fb11, ft0, fldsD_g2 hlt, ft2]) <;> first | exact ⟨rfl⟩ | (constructor; simp; done)
                    · (try simp only [go_sem, icast, natT, fldsD_len, Nat.zero_add, List.take_length, fb2, h7, fb11, ft0, fldsD_g2 hlt, ft2]) <;> first | exact ⟨rfl⟩ | (constructor; rw [← fldsT_add hlt]; done)
                    all_goals omega
                  · skip
                    try simp only [decide_eq_true_eq, decide_eq_false_iff_not, Bool.not_eq_true', Bool.not_eq_false', Bool.and_eq_true, Bool.or_eq_true, Bool.and_eq_false_iff, Bool.or_eq_false_iff, Int.not_lt, Int.not_le, beq_iff_eq, beq_eq_false_iff_ne, ne_eq, Bool.not_eq_true, Bool.not_eq_false] at hc7
                    refine AWp.exit ?_
                    refine thenQ_e (thenQ_e (blkQ_e (thenQ_n ?_)))
                    refine hK47 _ _ ?_
                    try clear hK47 K47
                    refine AWp.mask [true, false, true] rfl ?_
                    simp only [go_sem]
                    refine AWp.rs fun K54 hK54 => ?_
                    try simp only [go_sem, icast, natT, fldsD_len, Nat.zero_add, List.take_length, fb2, h7, fb11, ft0]
                    (repeat (with_reducible refine And.intro ?_ ?_; (first | omega | (intro _; omega) | decide | (exact nfB) | (intro _; exact nfB) | (intro hg; refine ⟨hg, ?_⟩; omega) | (simp; done) | (simp; omega) | (intro hg; simp at hg; done) | (intro hg; simp at hg ⊢; first | omega | exact hg | grind))))
                    refine hK54 _ _ ?_
                    try clear hK54 K54
                    refine AWp.ret ?_
                    try simp only [go_sem, icast, natT, fldsD_len, Nat.zero_add, List.take_length, fb2, h7, fb11, ft0]
                    obtain rfl : k = acc.length := by omega
                    rw [List.take_length, msgV_of hle0 h2 (ms_end he hc3)]; exact ⟨⟨rfl, rfl⟩, rfl, rfl⟩
            · skip
              try simp only [decide_eq_true_eq, decide_eq_false_iff_not, Bool.not_eq_true', Bool.not_eq_false', Bool.and_eq_true, Bool.or_eq_true, Bool.and_eq_false_iff, Bool.or_eq_false_iff, Int.not_lt, Int.not_le, beq_iff_eq, beq_eq_false_iff_ne, ne_eq, Bool.not_eq_true, Bool.not_eq_false] at hc3
              have htn : ¬ q.take e = [] := by simpa using hc3
              have htp : 0 < (q.take e).length := List.length_pos_iff.2 htn
              refine AWp.skip ?_
              refine thenQ_n ?_
              refine hK44 _ _ ?_
              try clear hK44 K44
              refine AWp.seq fun K55 hK55 => ?_
              refine AWp.rs fun K56 hK56 => ?_
              try simp only [go_sem, icast, natT, fldsD_len, Nat.zero_add, List.take_length, fb2, h7]
              (repeat (with_reducible refine And.intro ?_ ?_; (first | omega | (intro _; omega) | decide | (exact nfB) | (intro _; exact nfB) | (intro hg; refine ⟨hg, ?_⟩; omega) | (simp; done) | (simp; omega) | (intro hg; simp at hg; done) | (intro hg; simp at hg ⊢; first | omega | exact hg | grind))))
              refine DW.pcr rfl rfl rfl rfl (lblank_c T _) rfl rfl ?_
              try simp only [go_sem, icast, natT, fldsD_len, Nat.zero_add, List.take_length, fb2, h7]
              (repeat (with_reducible refine And.intro ?_ ?_; (first | omega | (intro _; omega) | decide | (exact nfB) | (intro _; exact nfB) | (intro hg; refine ⟨hg, ?_⟩; omega) | (simp; done) | (simp; omega) | (intro hg; simp at hg; done) | (intro hg; simp at hg ⊢; first | omega | exact hg | grind))))
              refine hK56 _ _ ?_
              try clear hK56 K56
              refine AWp.mask [true, true, true, true, true, true, false, false, false, false, false, false, false, false, true] rfl ?_
              simp only [go_sem]
              refine AWp.cond _ rfl (fun hc4 => ?_) (fun hc4 => ?_)
              · skip
                try simp only [decide_eq_true_eq, decide_eq_false_iff_not, Bool.not_eq_true', Bool.not_eq_false', Bool.and_eq_true, Bool.or_eq_true, Bool.and_eq_false_iff, Bool.or_eq_false_iff, Int.not_lt, Int.not_le, beq_iff_eq, beq_eq_false_iff_ne, ne_eq, Bool.not_eq_true, Bool.not_eq_false] at hc4
                have hap : 0 < acc.length := by omega
                have hbl := hc4.1
                have hfo := (h5.get (i := acc.length - 1) (by omega)).2
                refine AWp.rs fun K57 hK57 => ?_
                try simp only [go_sem, icast, natT, fldsD_len, Nat.zero_add, List.take_length, fb2, h7, nlen1 hap, frow_get (show acc.length - 1 < acc.length by omega)]
                (repeat (with_reducible refine And.intro ?_ ?_; (first | omega | (intro _; omega) | decide | (exact nfB) | (intro _; exact nfB) | (intro hg; refine ⟨hg, ?_⟩; omega) | (simp; done) | (simp; omega) | (intro hg; simp at hg; done) | (intro hg; simp at hg ⊢; first | omega | exact hg | grind))))
                refine hK57 _ _ ?_
                try clear hK57 K57
                refine AWp.mask [true, true, true, true, true] rfl ?_
                simp only [go_sem]
                refine AWp.exit ?_
                refine thenQ_e (blkQ_e (thenQ_n ?_))
                refine hK10 _ _ ?_
                try clear hK10 K10
                refine AWp.rk fun K58 hK58 => ?_
                try simp only [go_sem, icast, natT, fldsD_len, Nat.zero_add, List.take_length, fb2, h7, nlen1 hap, frow_get (show acc.length - 1 < acc.length by omega)]
                (repeat (with_reducible refine And.intro ?_ ?_; (first | omega | (intro _; omega) | decide | (exact nfB) | (intro _; exact nfB) | (intro hg; refine ⟨hg, ?_⟩; omega) | (simp; done) | (simp; omega) | (intro hg; simp at hg; done) | (intro hg; simp at hg ⊢; first | omega | exact hg | grind))))
                refine hK58 _ _ ?_
                try clear hK58 K58
                refine thenQ_n ?_
                refine EndS.mkr [true, true] [false, false, true, true, true] rfl ?_ ?_
                · (try simp only [go_sem, icast, natT, fldsD_len, Nat.zero_add, List.take_length, fb2, h7, nlen1 hap, frow_get (show acc.length - 1 < acc.length by omega)]) <;> try rfl
                refine .e ⟨_, ?_, (m - 1), (ln + 1), (f + (e + 2)), bf, cf, (glue acc (q.take e)), (q.drop (e + 2)), rfl, ?_, ?_, ?_, ?_, ?_, ?_, ?_, ?_, ?_, ?_, ?_⟩
                · first | omega | (simp; omega) | (rw [List.length_drop]; omega)
                · (try simp only [go_sem, icast, natT, fldsD_len, Nat.zero_add, List.take_length, fb2, h7, nlen1 hap, frow_get (show acc.length - 1 < acc.length by omega)]) <;> first | exact ⟨rfl⟩ | (constructor; simp [mA_pos hz, glue_len]; omega)
                · (try simp only [go_sem, icast, natT, fldsD_len, Nat.zero_add, List.take_length, fb2, h7, nlen1 hap, frow_get (show acc.length - 1 < acc.length by omega)]) <;> first | exact ⟨rfl⟩ | (constructor; rw [mO_pos hz, frow_set, mrow_set])
                · rw [List.length_drop]; omega
                · rw [show m - 1 + 1 = m by omega, ← ms_glue he htn hbl hap]; exact h2
                · rw [glue_len]; omega
                · rw [List.length_drop]; omega
                · exact h5.glue hap (by rw [List.length_drop, htl]; omega)
                · intro hq; omega
                · exact h7
                · rw [h8, List.drop_drop]
                · omega
              · skip
                try simp only [decide_eq_true_eq, decide_eq_false_iff_not, Bool.not_eq_true', Bool.not_eq_false', Bool.and_eq_true, Bool.or_eq_true, Bool.and_eq_false_iff, Bool.or_eq_false_iff, Int.not_lt, Int.not_le, beq_iff_eq, beq_eq_false_iff_ne, ne_eq, Bool.not_eq_true, Bool.not_eq_false] at hc4
                have hnb : ¬ (isBl ((q.take e).getD 0 0) = true ∧ 0 < acc.length) := fun hh => by
                  rcases hc4 with hq | hq
                  · rw [hh.1] at hq; cases hq
                  · omega
                refine AWp.skip ?_
                refine thenQ_n ?_
                refine hK55 _ _ ?_
                try clear hK55 K55
                rcases (show Lib.index (q.take e) [58] < 0 ∨ 0 ≤ Lib.index (q.take e) [58] by omega) with hy | hy
                · skip
                  refine AWp.rs fun K59 hK59 => ?_
                  try simp only [go_sem, icast, natT, fldsD_len, Nat.zero_add, List.take_length, fb2, h7]
                  (repeat (with_reducible refine And.intro ?_ ?_; (first | omega | (intro _; omega) | decide | (exact nfB) | (intro _; exact nfB) | (intro hg; refine ⟨hg, ?_⟩; omega) | (simp; done) | (simp; omega) | (intro hg; simp at hg; done) | (intro hg; simp at hg ⊢; first | omega | exact hg | grind))))
                  refine DW.pcr rfl rfl rfl rfl (colonAt_x T (q.take e) (by omega) _ rfl) rfl rfl ?_
                  try simp only [go_sem, icast, natT, fldsD_len, Nat.zero_add, List.take_length, fb2, h7]
                  (repeat (with_reducible refine And.intro ?_ ?_; (first | omega | (intro _; omega) | decide | (exact nfB) | (intro _; exact nfB) | (intro hg; refine ⟨hg, ?_⟩; omega) | (simp; done) | (simp; omega) | (intro hg; simp at hg; done) | (intro hg; simp at hg ⊢; first | omega | exact hg | grind))))
                  refine hK59 _ _ ?_
                  try clear hK59 K59
                  refine AWp.seq fun K60 hK60 => ?_
                  refine AWp.rs fun K61 hK61 => ?_
                  try simp only [go_sem, icast, natT, fldsD_len, Nat.zero_add, List.take_length, fb2, h7]
                  (repeat (with_reducible refine And.intro ?_ ?_; (first | omega | (intro _; omega) | decide | (exact nfB) | (intro _; exact nfB) | (intro hg; refine ⟨hg, ?_⟩; omega) | (simp; done) | (simp; omega) | (intro hg; simp at hg; done) | (intro hg; simp at hg ⊢; first | omega | exact hg | grind))))
                  refine DW.pcgr rfl rfl rfl rfl rfl (fun hg => nameMay_c T (List.take (Lib.index (q.take e) [58]).toNat (q.take e)) (by simp only [List.length_take]; omega)) (fun hg => by (try simp only [go_sem, icast, natT, fldsD_len, Nat.zero_add, List.take_length, fb2, h7]) <;> first | exact hg | (exfalso; simp at hg; done) | (simpa using hg) | grind) rfl rfl ?_
                  try simp only [go_sem, icast, natT, fldsD_len, Nat.zero_add, List.take_length, fb2, h7]
                  (repeat (with_reducible refine And.intro ?_ ?_; (first | omega | (intro _; omega) | decide | (exact nfB) | (intro _; exact nfB) | (intro hg; refine ⟨hg, ?_⟩; omega) | (simp; done) | (simp; omega) | (intro hg; simp at hg; done) | (intro hg; simp at hg ⊢; first | omega | exact hg | grind))))
                  refine hK61 _ _ ?_
                  try clear hK61 K61
                  refine AWp.mask [true, true, true, true, true, true, true, false, false, false, false, false, false, false, false, false, false, false, true] rfl ?_
                  simp only [go_sem]
                  refine AWp.cond _ rfl (fun hc5 => ?_) (fun hc5 => ?_)
                  · skip
                    try simp only [decide_eq_true_eq, decide_eq_false_iff_not, Bool.not_eq_true', Bool.not_eq_false', Bool.and_eq_true, Bool.or_eq_true, Bool.and_eq_false_iff, Bool.or_eq_false_iff, Int.not_lt, Int.not_le, beq_iff_eq, beq_eq_false_iff_ne, ne_eq, Bool.not_eq_true, Bool.not_eq_false] at hc5
                    refine AWp.rs fun K62 hK62 => ?_
                    try simp only [go_sem, icast, natT, fldsD_len, Nat.zero_add, List.take_length, fb2, h7]
                    (repeat (with_reducible refine And.intro ?_ ?_; (first | omega | (intro _; omega) | decide | (exact nfB) | (intro _; exact nfB) | (intro hg; refine ⟨hg, ?_⟩; omega) | (simp; done) | (simp; omega) | (intro hg; simp at hg; done) | (intro hg; simp at hg ⊢; first | omega | exact hg | grind))))
                    refine hK62 _ _ ?_
                    try clear hK62 K62
                    refine AWp.mask [false, true, true, true] rfl ?_
                    simp only [go_sem]
                    refine AWp.ret ?_
                    try simp only [go_sem, icast, natT, fldsD_len, Nat.zero_add, List.take_length, fb2, h7]
                    rw [msgV_of hle0 h2 (ms_form1 he htn hnb hy)]; simp [LeA, LeL, LeD, fldsD]
                  · skip
                    exfalso
                    simp [hy] at hc5
                · skip
                  obtain ⟨c, hc⟩ := Int.eq_ofNat_of_zero_le hy
                  have hcl := lix hc
                  simp only [List.length_cons, List.length_nil] at hcl
                  refine AWp.rs fun K59 hK59 => ?_
                  try simp only [go_sem, icast, natT, fldsD_len, Nat.zero_add, List.take_length, fb2, h7]
                  (repeat (with_reducible refine And.intro ?_ ?_; (first | omega | (intro _; omega) | decide | (exact nfB) | (intro _; exact nfB) | (intro hg; refine ⟨hg, ?_⟩; omega) | (simp; done) | (simp; omega) | (intro hg; simp at hg; done) | (intro hg; simp at hg ⊢; first | omega | exact hg | grind))))
                  refine DW.pcr rfl rfl rfl rfl (colonAt_x T (q.take e) (by omega) _ hc) rfl rfl ?_
                  try simp only [go_sem, icast, natT, fldsD_len, Nat.zero_add, List.take_length, fb2, h7]
                  (repeat (with_reducible refine And.intro ?_ ?_; (first | omega | (intro _; omega) | decide | (exact nfB) | (intro _; exact nfB) | (intro hg; refine ⟨hg, ?_⟩; omega) | (simp; done) | (simp; omega) | (intro hg; simp at hg; done) | (intro hg; simp at hg ⊢; first | omega | exact hg | grind))))
                  refine hK59 _ _ ?_
                  try clear hK59 K59
                  refine AWp.seq fun K63 hK63 => ?_
                  refine AWp.rs fun K64 hK64 => ?_
                  try simp only [go_sem, icast, natT, fldsD_len, Nat.zero_add, List.take_length, fb2, h7]
                  (repeat (with_reducible refine And.intro ?_ ?_; (first | omega | (intro _; omega) | decide | (exact nfB) | (intro _; exact nfB) | (intro hg; refine ⟨hg, ?_⟩; omega) | (simp; done) | (simp; omega) | (intro hg; simp at hg; done) | (intro hg; simp at hg ⊢; first | omega | exact hg | grind))))
                  refine DW.pcgr rfl rfl rfl rfl rfl (fun hg => nameMay_c T ((q.take e).take c) (by simp only [List.length_take]; omega)) (fun hg => by (try simp only [go_sem, icast, natT, fldsD_len, Nat.zero_add, List.take_length, fb2, h7]) <;> first | exact hg | (exfalso; simp at hg; done) | (simpa using hg) | grind) rfl rfl ?_
                  try simp only [go_sem, icast, natT, fldsD_len, Nat.zero_add, List.take_length, fb2, h7]
                  (repeat (with_reducible refine And.intro ?_ ?_; (first | omega | (intro _; omega) | decide | (exact nfB) | (intro _; exact nfB) | (intro hg; refine ⟨hg, ?_⟩; omega) | (simp; done) | (simp; omega) | (intro hg; simp at hg; done) | (intro hg; simp at hg ⊢; first | omega | exact hg | grind))))
                  refine hK64 _ _ ?_
                  try clear hK64 K64
                  refine AWp.mask [true, true, true, true, true, true, true, false, false, false, false, false, false, false, false, false, false, false, true] rfl ?_
                  simp only [go_sem]
                  refine AWp.cond _ rfl (fun hc5 => ?_) (fun hc5 => ?_)
                  · skip
                    try simp only [decide_eq_true_eq, decide_eq_false_iff_not, Bool.not_eq_true', Bool.not_eq_false', Bool.and_eq_true, Bool.or_eq_true, Bool.and_eq_false_iff, Bool.or_eq_false_iff, Int.not_lt, Int.not_le, beq_iff_eq, beq_eq_false_iff_ne, ne_eq, Bool.not_eq_true, Bool.not_eq_false] at hc5
                    refine AWp.rs fun K65 hK65 => ?_
                    try simp only [go_sem, icast, natT, fldsD_len, Nat.zero_add, List.take_length, fb2, h7]
                    (repeat (with_reducible refine And.intro ?_ ?_; (first | omega | (intro _; omega) | decide | (exact nfB) | (intro _; exact nfB) | (intro hg; refine ⟨hg, ?_⟩; omega) | (simp; done) | (simp; omega) | (intro hg; simp at hg; done) | (intro hg; simp at hg ⊢; first | omega | exact hg | grind))))
                    refine hK65 _ _ ?_
                    try clear hK65 K65
                    refine AWp.mask [false, true, true, true] rfl ?_
                    simp only [go_sem]
                    refine AWp.ret ?_
                    try simp only [go_sem, icast, natT, fldsD_len, Nat.zero_add, List.take_length, fb2, h7]
                    rw [msgV_of hle0 h2 (ms_form2 he htn hnb hc (hc5.resolve_left (by omega)))]; simp [LeA, LeL, LeD, fldsD]
                  · skip
                    try simp only [decide_eq_true_eq, decide_eq_false_iff_not, Bool.not_eq_true', Bool.not_eq_false', Bool.and_eq_true, Bool.or_eq_true, Bool.and_eq_false_iff, Bool.or_eq_false_iff, Int.not_lt, Int.not_le, beq_iff_eq, beq_eq_false_iff_ne, ne_eq, Bool.not_eq_true, Bool.not_eq_false] at hc5
                    have hnm : nmL ((q.take e).take c) = true := by simpa using hc5
                    refine AWp.skip ?_
                    refine thenQ_n ?_
                    refine hK63 _ _ ?_
                    try clear hK63 K63
                    refine AWp.seq fun K66 hK66 => ?_
                    refine AWp.rs fun K67 hK67 => ?_
                    try simp only [go_sem, icast, natT, fldsD_len, Nat.zero_add, List.take_length, fb2, h7]
                    (repeat (with_reducible refine And.intro ?_ ?_; (first | omega | (intro _; omega) | decide | (exact nfB) | (intro _; exact nfB) | (intro hg; refine ⟨hg, ?_⟩; omega) | (simp; done) | (simp; omega) | (intro hg; simp at hg; done) | (intro hg; simp at hg ⊢; first | omega | exact hg | grind))))
                    refine hK67 _ _ ?_
                    try clear hK67 K67
                    refine AWp.cond _ rfl (fun hc6 => ?_) (fun hc6 => ?_)
                    · skip
                      try simp only [decide_eq_true_eq, decide_eq_false_iff_not, Bool.not_eq_true', Bool.not_eq_false', Bool.and_eq_true, Bool.or_eq_true, Bool.and_eq_false_iff, Bool.or_eq_false_iff, Int.not_lt, Int.not_le, beq_iff_eq, beq_eq_false_iff_ne, ne_eq, Bool.not_eq_true, Bool.not_eq_false] at hc6
                      refine AWp.rs fun K68 hK68 => ?_
                      try simp only [go_sem, icast, natT, fldsD_len, Nat.zero_add, List.take_length, fb2, h7]
                      (repeat (with_reducible refine And.intro ?_ ?_; (first | omega | (intro _; omega) | decide | (exact nfB) | (intro _; exact nfB) | (intro hg; refine ⟨hg, ?_⟩; omega) | (simp; done) | (simp; omega) | (intro hg; simp at hg; done) | (intro hg; simp at hg ⊢; first | omega | exact hg | grind))))
                      refine hK68 _ _ ?_
                      try clear hK68 K68
                      refine AWp.mask [false, true, true, true] rfl ?_
                      simp only [go_sem]
                      refine AWp.ret ?_
                      try simp only [go_sem, icast, natT, fldsD_len, Nat.zero_add, List.take_length, fb2, h7]
                      rw [msgV_of hle0 h2 (ms_full he htn hnb hc hnm (by omega))]; simp [LeA, LeL, LeD, fldsD]
                    · skip
                      try simp only [decide_eq_true_eq, decide_eq_false_iff_not, Bool.not_eq_true', Bool.not_eq_false', Bool.and_eq_true, Bool.or_eq_true, Bool.and_eq_false_iff, Bool.or_eq_false_iff, Int.not_lt, Int.not_le, beq_iff_eq, beq_eq_false_iff_ne, ne_eq, Bool.not_eq_true, Bool.not_eq_false] at hc6
                      refine AWp.skip ?_
                      refine thenQ_n ?_
                      refine hK66 _ _ ?_
                      try clear hK66 K66
                      refine AWp.mask [true, true, true, true, true, true, true] rfl ?_
                      simp only [go_sem]
                      refine AWp.dk true [0, 1, 2, 3, 4, 5, 6, 7, 8, 9, 10, 11] rfl (by kernel_rfl) fun K69 hK69 => ?_
                      try simp only [go_sem, icast, natT, fldsD_len, Nat.zero_add, List.take_length, fb2, h7]
                      (repeat (with_reducible refine And.intro ?_ ?_; (first | omega | (intro _; omega) | decide | (exact nfB) | (intro _; exact nfB) | (intro hg; refine ⟨hg, ?_⟩; omega) | (simp; done) | (simp; omega) | (intro hg; simp at hg; done) | (intro hg; simp at hg ⊢; first | omega | exact hg | grind))))
                      refine DW.appM (b0 := bf) (c0 := cf) (rows := dRows (fldsD acc)) rfl rfl (Eq.trans (b := .arr bf 2 acc.length cf) rfl (by rw [mA_pos hz, dRows_len, fldsD_len])) (by rw [mO_pos hz]) (fun h => absurd h (by omega)) rfl (show slI Tryd.prog 62 = some (118, 2, 32) by simp only [go_sem]) rfl rfl (frow_full acc) rfl (by first | decide | (simp; done) | omega) (by first | omega | (simp only [go_sem] <;> omega) | (simp only [go_sem, List.length_take, List.length_map, List.length_append, List.length_cons, List.length_nil] <;> omega) | (simp <;> omega)) (by first | omega | (simp only [go_sem] <;> omega) | (simp only [go_sem, List.length_take, List.length_map, List.length_append, List.length_cons, List.length_nil] <;> omega) | (simp <;> omega)) fun bm3 cm3 hcm3 fbm3 => ?_
                      try simp only [freshL] at fbm3
                      try simp only [go_sem, icast, natT, fldsD_len, Nat.zero_add, List.take_length, fb2, h7, fbm3]
                      (repeat (with_reducible refine And.intro ?_ ?_; (first | omega | (intro _; omega) | decide | (exact nfB) | (intro _; exact nfB) | (intro hg; refine ⟨hg, ?_⟩; omega) | (simp; done) | (simp; omega) | (intro hg; simp at hg; done) | (intro hg; simp at hg ⊢; first | omega | exact hg | grind))))
                      refine hK69 _ _ ?_
                      try clear hK69 K69
                      refine blkQ_n (thenQ_n ?_)
                      refine hK10 _ _ ?_
                      try clear hK10 K10
                      refine AWp.mask [true, true, true, true, true] rfl ?_
                      simp only [go_sem]
                      refine AWp.rk fun K70 hK70 => ?_
                      try simp only [go_sem, icast, natT, fldsD_len, Nat.zero_add, List.take_length, fb2, h7, fbm3]
                      (repeat (with_reducible refine And.intro ?_ ?_; (first | omega | (intro _; omega) | decide | (exact nfB) | (intro _; exact nfB) | (intro hg; refine ⟨hg, ?_⟩; omega) | (simp; done) | (simp; omega) | (intro hg; simp at hg; done) | (intro hg; simp at hg ⊢; first | omega | exact hg | grind))))
                      refine hK70 _ _ ?_
                      try clear hK70 K70
                      refine thenQ_n ?_
                      refine EndS.mkr [true, true] [false, false, true, true, true] rfl ?_ ?_
                      · (try simp only [go_sem, icast, natT, fldsD_len, Nat.zero_add, List.take_length, fb2, h7, fbm3]) <;> try rfl
                      refine .e ⟨_, ?_, (m - 1), (ln + 1), (f + (e + 2)), bm3, cm3, (acc ++ [((q.take e).take c, (q.take e).drop (c + 1))]), (q.drop (e + 2)), rfl, ?_, ?_, ?_, ?_, ?_, ?_, ?_, ?_, ?_, ?_, ?_⟩
                      · first | omega | (simp; omega) | (rw [List.length_drop]; omega)
                      · (try simp only [go_sem, icast, natT, fldsD_len, Nat.zero_add, List.take_length, fb2, h7, fbm3]) <;> first | exact ⟨rfl⟩ | (constructor; simp [mA_pos hcm3] <;> omega)
                      · (try simp only [go_sem, icast, natT, fldsD_len, Nat.zero_add, List.take_length, fb2, h7, fbm3]) <;> first | exact ⟨rfl⟩ | (constructor; rw [mO_pos hcm3]; simp [dRows, fldsD, fldD]; done)
                      · rw [List.length_drop]; omega
                      · rw [show m - 1 + 1 = m by omega, ← ms_add he htn hnb hc hnm (by first | omega | (simp; done))]; exact h2
                      · (simp <;> omega)
                      · rw [List.length_drop]; omega
                      · exact h5.add (by rw [List.length_drop]; omega) (by simp; omega) (by rw [List.length_drop, List.length_drop]; omega)
                      · intro hq; omega
                      · simp_all [freshL]; done
                      · rw [h8, List.drop_drop]
                      · omega
      · skip
        exact absurd hc1 (by simp)
end Go.Proofs.YthhfbolhlbgbgaaDoor

namespace Go.Proofs.YthhfbolhlbgbgaaDoor
set_option linter.unusedSimpArgs false
set_option linter.unusedVariables false
theorem msgF_len : ∀ (n : Nat) (acc : List (Tx × Tx)) (ln : Nat) (s : Tx), acc.length ≤ 30 → (msgF n acc ln s).1.length ≤ 30
  | 0, acc, ln, s, h => by simp [msgF]
  | n + 1, acc, ln, s, h => by
    rw [msgF]
    split
    · simp
    · split
      · exact h
      · split
        · exact msgF_len n _ _ _ (by rw [glue_len]; exact h)
        · split
          · simp
          · split
            · simp
            · split
              · simp
              · exact msgF_len n _ _ _ (by rw [List.length_append, List.length_singleton]; omega)
theorem msgV_len (s : Tx) : (msgV s).1.length ≤ 30 := by
  unfold msgV
  split
  · simp
  · rw [List.length_map]; exact msgF_len _ _ _ _ (by simp)
set_option maxRecDepth 4000 in
set_option maxHeartbeats 1000000 in
theorem sameMessage_c (T : Tbl) (l : List (Tx × Tx)) (t : Tx) (hl : l.length ≤ 10000000000000) : PC Tryd.prog T 38 [.agg [.d (.slc 2 (fldsD l)), .d (.str t)], .agg [.d (.slc 2 (fldsD l)), .d (.str t)]] (.d (.bool true)) := by
  refine ⟨Tryd.call38, PCall.enterS Tryd.func38 rfl Tryd.ntmps38 rfl fun hb => ?_⟩
  simp only [go_sem, Tryd.results38]
  refine AWp.rs fun K1 hK1 => ?_
  try simp only [go_sem, icast, fldsD_len, bne_self_eq_false, decide_true, Bool.not_true]
  (repeat (with_reducible refine And.intro ?_ ?_; (first | omega | (intro _; omega) | decide | (exact nfB) | (intro _; exact nfB) | (intro hg; refine ⟨hg, ?_⟩; omega) | (simp; done) | (simp; omega) | (intro hg; simp at hg; done) | (intro hg; simp at hg ⊢; first | omega | exact hg | grind))))
  intro b2
  first | intro fb2 | have fb2 := True.intro
  try simp only [freshL] at fb2
  try simp only [go_sem, icast, fldsD_len, bne_self_eq_false, decide_true, Bool.not_true, fb2]
  (repeat (with_reducible refine And.intro ?_ ?_; (first | omega | (intro _; omega) | decide | (exact nfB) | (intro _; exact nfB) | (intro hg; refine ⟨hg, ?_⟩; omega) | (simp; done) | (simp; omega) | (intro hg; simp at hg; done) | (intro hg; simp at hg ⊢; first | omega | exact hg | grind))))
  intro b3
  first | intro fb3 | have fb3 := True.intro
  try simp only [freshL] at fb3
  try simp only [go_sem, icast, fldsD_len, bne_self_eq_false, decide_true, Bool.not_true, fb2, fb3]
  (repeat (with_reducible refine And.intro ?_ ?_; (first | omega | (intro _; omega) | decide | (exact nfB) | (intro _; exact nfB) | (intro hg; refine ⟨hg, ?_⟩; omega) | (simp; done) | (simp; omega) | (intro hg; simp at hg; done) | (intro hg; simp at hg ⊢; first | omega | exact hg | grind))))
  refine hK1 _ _ ?_
  try clear hK1 K1
  refine AWp.seq fun K2 hK2 => ?_
  refine AWp.rs fun K3 hK3 => ?_
  try simp only [go_sem, icast, fldsD_len, bne_self_eq_false, decide_true, Bool.not_true, fb2, fb3]
  (repeat (with_reducible refine And.intro ?_ ?_; (first | omega | (intro _; omega) | decide | (exact nfB) | (intro _; exact nfB) | (intro hg; refine ⟨hg, ?_⟩; omega) | (simp; done) | (simp; omega) | (intro hg; simp at hg; done) | (intro hg; simp at hg ⊢; first | omega | exact hg | grind))))
  refine hK3 _ _ ?_
  try clear hK3 K3
  refine AWp.mask [false, false, true, true, false, false, false, false, false, false, false, false, false, false, false, false, false, false, true] rfl ?_
  simp only [go_sem]
  refine AWp.cond _ rfl (fun hc0 => ?_) (fun hc0 => ?_)
  · skip
    exact absurd hc0 (by simp)
  · skip
    try simp only [decide_eq_true_eq, decide_eq_false_iff_not, Bool.not_eq_true', Bool.not_eq_false', Bool.and_eq_true, Bool.or_eq_true, Bool.and_eq_false_iff, Bool.or_eq_false_iff, Int.not_lt, Int.not_le, beq_iff_eq, beq_eq_false_iff_ne, ne_eq, Bool.not_eq_true, Bool.not_eq_false] at hc0
    refine AWp.skip ?_
    refine thenQ_n ?_
    refine hK2 _ _ ?_
    try clear hK2 K2
    refine AWp.seq fun K4 hK4 => ?_
    refine AWp.rs fun K5 hK5 => ?_
    try simp only [go_sem, icast, fldsD_len, bne_self_eq_false, decide_true, Bool.not_true, fb2, fb3]
    (repeat (with_reducible refine And.intro ?_ ?_; (first | omega | (intro _; omega) | decide | (exact nfB) | (intro _; exact nfB) | (intro hg; refine ⟨hg, ?_⟩; omega) | (simp; done) | (simp; omega) | (intro hg; simp at hg; done) | (intro hg; simp at hg ⊢; first | omega | exact hg | grind))))
    refine hK5 _ _ ?_
    try clear hK5 K5
    refine AWp.block ?_
    refine AWp.mask [true, true, true] rfl ?_
    simp only [go_sem]
    refine AWp.loopS [true, true] [false, false, true] (fun n lc hc => ∃ (k : Nat), n = l.length - k ∧ EqS lc [(5, .d (.int .i64 k))] ∧ EqS hc (⟨[(b3, ⟨2, 1, [[.d (.slc 2 (fldsD l)), .d (.str t)]]⟩), (b2, ⟨2, 1, [[.d (.slc 2 (fldsD l)), .d (.str t)]]⟩)], []⟩) ∧ (k ≤ l.length)) rfl ?_ ?_
    · refine ⟨_, 0, rfl, ?_, ?_, ?_⟩
      · (try simp only [go_sem, icast, fldsD_len, bne_self_eq_false, decide_true, Bool.not_true, fb2, fb3]) <;> first | exact ⟨rfl⟩ | (constructor; simp; done)
      · (try simp only [go_sem, icast, fldsD_len, bne_self_eq_false, decide_true, Bool.not_true, fb2, fb3]) <;> first | exact ⟨rfl⟩ | (constructor; simp; done)
      all_goals (first | omega | rfl | (simp; done) | (simp; omega) | assumption)
    · rintro _ _ _ ⟨k, rfl, ⟨rfl⟩, ⟨rfl⟩, h1⟩
      simp only [go_sem]
      refine AWp.seq fun K6 hK6 => ?_
      refine AWp.rs fun K7 hK7 => ?_
      try simp only [go_sem, icast, fldsD_len, bne_self_eq_false, decide_true, Bool.not_true, fb2, fb3]
      (repeat (with_reducible refine And.intro ?_ ?_; (first | omega | (intro _; omega) | decide | (exact nfB) | (intro _; exact nfB) | (intro hg; refine ⟨hg, ?_⟩; omega) | (simp; done) | (simp; omega) | (intro hg; simp at hg; done) | (intro hg; simp at hg ⊢; first | omega | exact hg | grind))))
      refine hK7 _ _ ?_
      try clear hK7 K7
      refine AWp.mask [true, true, true, false, false, false, false, true] rfl ?_
      simp only [go_sem]
      refine AWp.cond _ rfl (fun hc1 => ?_) (fun hc1 => ?_)
      · skip
        try simp only [decide_eq_true_eq, decide_eq_false_iff_not, Bool.not_eq_true', Bool.not_eq_false', Bool.and_eq_true, Bool.or_eq_true, Bool.and_eq_false_iff, Bool.or_eq_false_iff, Int.not_lt, Int.not_le, beq_iff_eq, beq_eq_false_iff_ne, ne_eq, Bool.not_eq_true, Bool.not_eq_false] at hc1
        have hlt : k < l.length := by omega
        refine AWp.skip ?_
        refine thenQ_n ?_
        refine hK6 _ _ ?_
        try clear hK6 K6
        refine AWp.seq fun K8 hK8 => ?_
        refine AWp.block ?_
        refine AWp.ds true [0, 1, 2, 3, 4, 5, 6, 7, 8, 9, 10] rfl (by kernel_rfl) fun K9 hK9 => ?_
        try simp only [go_sem, icast, fldsD_len, bne_self_eq_false, decide_true, Bool.not_true, fb2, fb3, fldsD_g2 hlt]
        (repeat (with_reducible refine And.intro ?_ ?_; (first | omega | (intro _; omega) | decide | (exact nfB) | (intro _; exact nfB) | (intro hg; refine ⟨hg, ?_⟩; omega) | (simp; done) | (simp; omega) | (intro hg; simp at hg; done) | (intro hg; simp at hg ⊢; first | omega | exact hg | grind))))
        refine hK9 _ _ ?_
        try clear hK9 K9
        refine AWp.mask [true, true, true, false, false, false, false, false, false, false, false, false, false, false, true] rfl ?_
        simp only [go_sem]
        refine AWp.cond _ rfl (fun hc2 => ?_) (fun hc2 => ?_)
        · skip
          exact absurd hc2 (by simp)
        · skip
          try simp only [decide_eq_true_eq, decide_eq_false_iff_not, Bool.not_eq_true', Bool.not_eq_false', Bool.and_eq_true, Bool.or_eq_true, Bool.and_eq_false_iff, Bool.or_eq_false_iff, Int.not_lt, Int.not_le, beq_iff_eq, beq_eq_false_iff_ne, ne_eq, Bool.not_eq_true, Bool.not_eq_false] at hc2
          refine AWp.skip ?_
          refine blkQ_n (thenQ_n ?_)
          refine hK8 _ _ ?_
          try clear hK8 K8
          refine AWp.rk fun K10 hK10 => ?_
          try simp only [go_sem, icast, fldsD_len, bne_self_eq_false, decide_true, Bool.not_true, fb2, fb3, fldsD_g2 hlt]
          (repeat (with_reducible refine And.intro ?_ ?_; (first | omega | (intro _; omega) | decide | (exact nfB) | (intro _; exact nfB) | (intro hg; refine ⟨hg, ?_⟩; omega) | (simp; done) | (simp; omega) | (intro hg; simp at hg; done) | (intro hg; simp at hg ⊢; first | omega | exact hg | grind))))
          refine hK10 _ _ ?_
          try clear hK10 K10
          refine thenQ_n ?_
          refine EndS.mk [true, true] [false, false, true] [] [] [b3, b2] [] rfl ?_ ?_
          · (try simp only [go_sem, icast, fldsD_len, bne_self_eq_false, decide_true, Bool.not_true, fb2, fb3, fldsD_g2 hlt]) <;> try rfl
          refine .e ⟨_, ?_, k + 1, rfl, ?_, ?_, ?_⟩
          · first | omega | (simp; omega) | (grind)
          · (try simp only [go_sem, icast, fldsD_len, bne_self_eq_false, decide_true, Bool.not_true, fb2, fb3, fldsD_g2 hlt]) <;> first | exact ⟨rfl⟩ | (constructor; simp; done)
          · (try simp only [go_sem, icast, fldsD_len, bne_self_eq_false, decide_true, Bool.not_true, fb2, fb3, fldsD_g2 hlt]) <;> first | exact ⟨rfl⟩ | (constructor; simp; done)
          all_goals (first | omega | assumption | grind)
      · skip
        try simp only [decide_eq_true_eq, decide_eq_false_iff_not, Bool.not_eq_true', Bool.not_eq_false', Bool.and_eq_true, Bool.or_eq_true, Bool.and_eq_false_iff, Bool.or_eq_false_iff, Int.not_lt, Int.not_le, beq_iff_eq, beq_eq_false_iff_ne, ne_eq, Bool.not_eq_true, Bool.not_eq_false] at hc1
        refine AWp.exit ?_
        refine thenQ_e (thenQ_e (blkQ_e (thenQ_n ?_)))
        refine hK4 _ _ ?_
        try clear hK4 K4
        refine AWp.mask [] rfl ?_
        simp only [go_sem]
        refine AWp.rs fun K11 hK11 => ?_
        try simp only [go_sem, icast, fldsD_len, bne_self_eq_false, decide_true, Bool.not_true, fb2, fb3]
        (repeat (with_reducible refine And.intro ?_ ?_; (first | omega | (intro _; omega) | decide | (exact nfB) | (intro _; exact nfB) | (intro hg; refine ⟨hg, ?_⟩; omega) | (simp; done) | (simp; omega) | (intro hg; simp at hg; done) | (intro hg; simp at hg ⊢; first | omega | exact hg | grind))))
        refine hK11 _ _ ?_
        try clear hK11 K11
        refine AWp.ret ?_
        try simp only [go_sem, icast, fldsD_len, bne_self_eq_false, decide_true, Bool.not_true, fb2, fb3]
        try simp [LeA, LeL, LeD]
set_option maxRecDepth 4000 in
set_option maxHeartbeats 1000000 in
theorem letterParses_c (T : Tbl) (hL : LibT T) (s : Tx) : PC Tryd.prog T 9 [.d (.str s)] (.d (.bool true)) := by
  refine ⟨Tryd.call9, PCall.enterS Tryd.func9 rfl Tryd.ntmps9 rfl fun hb => ?_⟩
  simp only [go_sem, Tryd.results9]
  refine AWp.rs fun K1 hK1 => ?_
  try simp only [go_sem, decide_true, Bool.true_and]
  (repeat (with_reducible refine And.intro ?_ ?_; (first | omega | (intro _; omega) | decide | (exact nfB) | (intro _; exact nfB) | (intro hg; refine ⟨hg, ?_⟩; omega) | (simp; done) | (simp; omega) | (intro hg; simp at hg; done) | (intro hg; simp at hg ⊢; first | omega | exact hg | grind))))
  refine hK1 _ _ ?_
  try clear hK1 K1
  refine AWp.rs fun K2 hK2 => ?_
  try simp only [go_sem, decide_true, Bool.true_and]
  (repeat (with_reducible refine And.intro ?_ ?_; (first | omega | (intro _; omega) | decide | (exact nfB) | (intro _; exact nfB) | (intro hg; refine ⟨hg, ?_⟩; omega) | (simp; done) | (simp; omega) | (intro hg; simp at hg; done) | (intro hg; simp at hg ⊢; first | omega | exact hg | grind))))
  refine DW.pcr rfl rfl rfl rfl (Parse_c T hL s) rfl rfl ?_
  try simp only [go_sem, decide_true, Bool.true_and]
  (repeat (with_reducible refine And.intro ?_ ?_; (first | omega | (intro _; omega) | decide | (exact nfB) | (intro _; exact nfB) | (intro hg; refine ⟨hg, ?_⟩; omega) | (simp; done) | (simp; omega) | (intro hg; simp at hg; done) | (intro hg; simp at hg ⊢; first | omega | exact hg | grind))))
  intro b3
  first | intro fb3 | have fb3 := True.intro
  try simp only [freshL] at fb3
  try simp only [go_sem, decide_true, Bool.true_and, fb3]
  (repeat (with_reducible refine And.intro ?_ ?_; (first | omega | (intro _; omega) | decide | (exact nfB) | (intro _; exact nfB) | (intro hg; refine ⟨hg, ?_⟩; omega) | (simp; done) | (simp; omega) | (intro hg; simp at hg; done) | (intro hg; simp at hg ⊢; first | omega | exact hg | grind))))
  refine hK2 _ _ ?_
  try clear hK2 K2
  refine AWp.mask [true, false, true, true, true] rfl ?_
  simp only [go_sem]
  refine AWp.rs fun K3 hK3 => ?_
  try simp only [go_sem, decide_true, Bool.true_and, fb3]
  (repeat (with_reducible refine And.intro ?_ ?_; (first | omega | (intro _; omega) | decide | (exact nfB) | (intro _; exact nfB) | (intro hg; refine ⟨hg, ?_⟩; omega) | (simp; done) | (simp; omega) | (intro hg; simp at hg; done) | (intro hg; simp at hg ⊢; first | omega | exact hg | grind))))
  refine DW.pcr rfl rfl rfl rfl (MessageOf_c T s) rfl rfl ?_
  try simp only [go_sem, decide_true, Bool.true_and, fb3]
  (repeat (with_reducible refine And.intro ?_ ?_; (first | omega | (intro _; omega) | decide | (exact nfB) | (intro _; exact nfB) | (intro hg; refine ⟨hg, ?_⟩; omega) | (simp; done) | (simp; omega) | (intro hg; simp at hg; done) | (intro hg; simp at hg ⊢; first | omega | exact hg | grind))))
  intro b6
  first | intro fb6 | have fb6 := True.intro
  try simp only [freshL] at fb6
  try simp only [go_sem, decide_true, Bool.true_and, fb3, fb6]
  (repeat (with_reducible refine And.intro ?_ ?_; (first | omega | (intro _; omega) | decide | (exact nfB) | (intro _; exact nfB) | (intro hg; refine ⟨hg, ?_⟩; omega) | (simp; done) | (simp; omega) | (intro hg; simp at hg; done) | (intro hg; simp at hg ⊢; first | omega | exact hg | grind))))
  refine hK3 _ _ ?_
  try clear hK3 K3
  refine AWp.mask [false, true, true, true, true, true, true] rfl ?_
  simp only [go_sem]
  refine AWp.rs fun K4 hK4 => ?_
  try simp only [go_sem, decide_true, Bool.true_and, fb3, fb6]
  (repeat (with_reducible refine And.intro ?_ ?_; (first | omega | (intro _; omega) | decide | (exact nfB) | (intro _; exact nfB) | (intro hg; refine ⟨hg, ?_⟩; omega) | (simp; done) | (simp; omega) | (intro hg; simp at hg; done) | (intro hg; simp at hg ⊢; first | omega | exact hg | grind))))
  refine DW.pcgr rfl rfl rfl rfl rfl (fun hg => sameMessage_c T (msgV s).1 (msgV s).2.1 (by have := msgV_len s; omega)) (fun hg => by (try simp only [go_sem, decide_true, Bool.true_and, fb3, fb6]) <;> first | exact hg | (exfalso; simp at hg; done) | (simpa using hg) | grind) rfl rfl ?_
  try simp only [go_sem, decide_true, Bool.true_and, fb3, fb6]
  (repeat (with_reducible refine And.intro ?_ ?_; (first | omega | (intro _; omega) | decide | (exact nfB) | (intro _; exact nfB) | (intro hg; refine ⟨hg, ?_⟩; omega) | (simp; done) | (simp; omega) | (intro hg; simp at hg; done) | (intro hg; simp at hg ⊢; first | omega | exact hg | grind))))
  refine hK4 _ _ ?_
  try clear hK4 K4
  refine AWp.mask [true] rfl ?_
  simp only [go_sem]
  refine AWp.ret ?_
  try simp only [go_sem, decide_true, Bool.true_and, fb3, fb6]
  try simp [LeA, LeL, LeD]
end Go.Proofs.YthhfbolhlbgbgaaDoor

/- Texts that the law JudgeChecks rests on, packed. -/
import Derived.Test.YthhfbolhlbgbgaaDoorGW
import Derived.Test.YthhfbolhlbgbgaaDoorGM
import Derived.Test.YthhfbolhlbgbgaaDoorGD
namespace Go.Proofs.YthhfbolhlbgbgaaDoor
open Go.RowKit
set_option linter.unusedSimpArgs false
set_option linter.unusedVariables false
open Go.ChangeShapes Go.WideShapes Go.ChangeAt
set_option maxRecDepth 20000
section
variable {H : Type} {enc : TypeId × Value → H} {W : World}
theorem dec_adr (f : Nat) : Dec enc Tryd.prog W (fun p : Tx × Tx => [.str p.1, .str p.2]) (fun p => p.1.length + p.2.length) 80 f := by
  cases f with
  | zero => exact .zero
  | succ f =>
    have hs : Dec enc Tryd.prog W (fun s : List UInt8 => [.str s]) (fun s => s.length + 1) 9 f := Dec.str Tryd.underlying9
    exact (Dec.struct Tryd.underlying80 (by kernel_rfl) (.cons (k := 1) hs (by kernel_rfl) rfl (.cons (k := 1) hs (by kernel_rfl) rfl .nil))).map
        (fun (p : Tx × (Tx × Unit)) => (p.1, p.2.1)) (fun p => rfl) (fun p => by dsimp only; omega)
theorem dec_ltr (f : Nat) : Dec enc Tryd.prog W (fun p : (Tx × Tx) × (Tx × Tx) × Tx => [.str p.1.1, .str p.1.2, .str p.2.1.1, .str p.2.1.2, .str p.2.2]) (fun p => p.1.1.length + p.1.2.length + p.2.1.1.length + p.2.1.2.length + p.2.2.length) 82 f := by
  cases f with
  | zero => exact .zero
  | succ f =>
    have hs : Dec enc Tryd.prog W (fun s : List UInt8 => [.str s]) (fun s => s.length + 1) 9 f := Dec.str Tryd.underlying9
    exact (Dec.struct Tryd.underlying82 (by kernel_rfl) (.cons (k := 2) (dec_adr f) (by kernel_rfl) rfl (.cons (k := 2) (dec_adr f) (by kernel_rfl) rfl (.cons (k := 1) hs (by kernel_rfl) rfl .nil)))).map
        (fun (p : (Tx × Tx) × ((Tx × Tx) × (Tx × Unit))) => (p.1, p.2.1, p.2.2.1)) (fun p => rfl) (fun p => by dsimp only; omega)
end
end Go.Proofs.YthhfbolhlbgbgaaDoor

namespace Go.Proofs.YthhfbolhlbgbgaaDoor
set_option linter.unusedSimpArgs false
set_option linter.unusedVariables false
/-- a letter's message, and what is wrong with it -/
def ltrM (a1 a2 c1 c2 s : Tx) : List (Tx × Tx) × Tx × Int := if ¬ adrE a1 a2 = 0 then ([], [], adrE a1 a2) else if ¬ adrE c1 c2 = 0 then ([], [], adrE c1 c2) else ((msgV s).1, (msgV s).2.1, (msgV s).2.2.2)
section
variable {a1 a2 c1 c2 s : Tx}
theorem ltr_1 (h : ¬ adrE a1 a2 = 0) : ltrM a1 a2 c1 c2 s = ([], [], adrE a1 a2) := if_pos h
theorem ltr_2 (h : adrE a1 a2 = 0) (h2 : ¬ adrE c1 c2 = 0) : ltrM a1 a2 c1 c2 s = ([], [], adrE c1 c2) := by rw [ltrM, if_neg (by simp [h]), if_pos h2]
theorem ltr_3 (h : adrE a1 a2 = 0) (h2 : adrE c1 c2 = 0) : ltrM a1 a2 c1 c2 s = ((msgV s).1, (msgV s).2.1, (msgV s).2.2.2) := by rw [ltrM, if_neg (by simp [h]), if_neg (by simp [h2])]
theorem ltrM_len : (ltrM a1 a2 c1 c2 s).1.length ≤ 30 := by
  unfold ltrM
  split
  · simp
  · split
    · simp
    · exact msgV_len s
end
structure LtrOk (a1 a2 c1 c2 : Tx) : Prop where
  h1 : a1.length ≤ 1048576
  h2 : a2.length ≤ 1048576
  h3 : c1.length ≤ 1048576
  h4 : c2.length ≤ 1048576
set_option maxRecDepth 4000 in
set_option maxHeartbeats 1000000 in
theorem JCheck_c (T : Tbl) (hL : LibT T) (a1 a2 c1 c2 s : Tx) (ok : LtrOk a1 a2 c1 c2) : PC Tryd.prog T 47 [.agg [.d (.str a1), .d (.str a2), .d (.str c1), .d (.str c2), .d (.str s)]] (.tup [.agg [.d (.slc 2 (fldsD (ltrM a1 a2 c1 c2 s).1)), .d (.str ((ltrM a1 a2 c1 c2 s).2.1))], .d (.int .i64 ((ltrM a1 a2 c1 c2 s).2.2))]) := by
  refine ⟨Tryd.call47, PCall.enterS Tryd.func47 rfl Tryd.ntmps47 rfl fun hb => ?_⟩
  simp only [go_sem, Tryd.results47]
  refine AWp.rs fun K1 hK1 => ?_
  try simp only [go_sem, icast, Nat.zero_add]
  (repeat (with_reducible refine And.intro ?_ ?_; (first | omega | (intro _; omega) | decide | (exact nfB) | (intro _; exact nfB) | (intro hg; refine ⟨hg, ?_⟩; omega) | (simp; done) | (simp; omega) | (intro hg; simp at hg; done) | (intro hg; simp at hg ⊢; first | omega | exact hg | grind))))
  intro b1
  first | intro fb1 | have fb1 := True.intro
  try simp only [freshL] at fb1
  try simp only [go_sem, icast, Nat.zero_add, fb1]
  (repeat (with_reducible refine And.intro ?_ ?_; (first | omega | (intro _; omega) | decide | (exact nfB) | (intro _; exact nfB) | (intro hg; refine ⟨hg, ?_⟩; omega) | (simp; done) | (simp; omega) | (intro hg; simp at hg; done) | (intro hg; simp at hg ⊢; first | omega | exact hg | grind))))
  intro b2
  first | intro fb2 | have fb2 := True.intro
  try simp only [freshL] at fb2
  try simp only [go_sem, icast, Nat.zero_add, fb1, fb2]
  (repeat (with_reducible refine And.intro ?_ ?_; (first | omega | (intro _; omega) | decide | (exact nfB) | (intro _; exact nfB) | (intro hg; refine ⟨hg, ?_⟩; omega) | (simp; done) | (simp; omega) | (intro hg; simp at hg; done) | (intro hg; simp at hg ⊢; first | omega | exact hg | grind))))
  refine hK1 _ _ ?_
  try clear hK1 K1
  refine AWp.seq fun K2 hK2 => ?_
  refine AWp.rs fun K3 hK3 => ?_
  try simp only [go_sem, icast, Nat.zero_add, fb1, fb2]
  (repeat (with_reducible refine And.intro ?_ ?_; (first | omega | (intro _; omega) | decide | (exact nfB) | (intro _; exact nfB) | (intro hg; refine ⟨hg, ?_⟩; omega) | (simp; done) | (simp; omega) | (intro hg; simp at hg; done) | (intro hg; simp at hg ⊢; first | omega | exact hg | grind))))
  refine hK3 _ _ ?_
  try clear hK3 K3
  refine AWp.mask [false, true, true, false, false, false, false, false, true, true] rfl ?_
  simp only [go_sem]
  refine AWp.block ?_
  refine AWp.loopS [true, true, true] [false, false, false, true] (fun n lc hc => ∃ (j : Nat), n = 2 - j ∧ EqS lc [(15, .d (.int .i64 j))] ∧ EqS hc (⟨[(b2, ⟨2, 1, [[.nils, .d (.str [])]]⟩), (b1, ⟨5, 1, [[.d (.str a1), .d (.str a2), .d (.str c1), .d (.str c2), .d (.str s)]]⟩)], []⟩) ∧ (j ≤ 2) ∧ (0 < j → adrE a1 a2 = 0) ∧ (1 < j → adrE c1 c2 = 0)) rfl ?_ ?_
  · refine ⟨_, 0, rfl, ?_, ?_, ?_, ?_, ?_⟩
    · (try simp only [go_sem, icast, Nat.zero_add, fb1, fb2]) <;> first | exact ⟨rfl⟩ | (constructor; simp; done)
    · (try simp only [go_sem, icast, Nat.zero_add, fb1, fb2]) <;> first | exact ⟨rfl⟩ | (constructor; simp; done)
    all_goals (first | omega | (intro hq; omega))
  · rintro _ _ _ ⟨j, rfl, ⟨rfl⟩, ⟨rfl⟩, h1, h2, h3⟩
    simp only [go_sem]
    refine AWp.rs fun K4 hK4 => ?_
    try simp only [go_sem, icast, Nat.zero_add, fb1, fb2]
    (repeat (with_reducible refine And.intro ?_ ?_; (first | omega | (intro _; omega) | decide | (exact nfB) | (intro _; exact nfB) | (intro hg; refine ⟨hg, ?_⟩; omega) | (simp; done) | (simp; omega) | (intro hg; simp at hg; done) | (intro hg; simp at hg ⊢; first | omega | exact hg | grind))))
    refine hK4 _ _ ?_
    try clear hK4 K4
    refine AWp.seq fun K5 hK5 => ?_
    refine AWp.cond _ rfl (fun hc0 => ?_) (fun hc0 => ?_)
    · skip
      try simp only [decide_eq_true_eq, decide_eq_false_iff_not, Bool.not_eq_true', Bool.not_eq_false', Bool.and_eq_true, Bool.or_eq_true, Bool.and_eq_false_iff, Bool.or_eq_false_iff, Int.not_lt, Int.not_le, beq_iff_eq, beq_eq_false_iff_ne, ne_eq, Bool.not_eq_true, Bool.not_eq_false] at hc0
      refine AWp.skip ?_
      refine thenQ_n ?_
      refine hK5 _ _ ?_
      try clear hK5 K5
      refine AWp.seq fun K6 hK6 => ?_
      refine AWp.block ?_
      rcases (show j = 0 ∨ j = 1 by omega) with rfl | rfl
      · skip
        refine AWp.rs fun K7 hK7 => ?_
        try simp only [go_sem, icast, Nat.zero_add, fb1, fb2]
        (repeat (with_reducible refine And.intro ?_ ?_; (first | omega | (intro _; omega) | decide | (exact nfB) | (intro _; exact nfB) | (intro hg; refine ⟨hg, ?_⟩; omega) | (simp; done) | (simp; omega) | (intro hg; simp at hg; done) | (intro hg; simp at hg ⊢; first | omega | exact hg | grind))))
        intro b5
        first | intro fb5 | have fb5 := True.intro
        try simp only [freshL] at fb5
        try simp only [go_sem, icast, Nat.zero_add, fb1, fb2, fb5]
        (repeat (with_reducible refine And.intro ?_ ?_; (first | omega | (intro _; omega) | decide | (exact nfB) | (intro _; exact nfB) | (intro hg; refine ⟨hg, ?_⟩; omega) | (simp; done) | (simp; omega) | (intro hg; simp at hg; done) | (intro hg; simp at hg ⊢; first | omega | exact hg | grind))))
        refine hK7 _ _ ?_
        try clear hK7 K7
        refine AWp.rs fun K8 hK8 => ?_
        try simp only [go_sem, icast, Nat.zero_add, fb1, fb2, fb5]
        (repeat (with_reducible refine And.intro ?_ ?_; (first | omega | (intro _; omega) | decide | (exact nfB) | (intro _; exact nfB) | (intro hg; refine ⟨hg, ?_⟩; omega) | (simp; done) | (simp; omega) | (intro hg; simp at hg; done) | (intro hg; simp at hg ⊢; first | omega | exact hg | grind))))
        refine DW.pcr rfl rfl rfl rfl (whoCheck_p T hL a1 a2 ok.h1 ok.h2) rfl rfl ?_
        try simp only [go_sem, icast, Nat.zero_add, fb1, fb2, fb5]
        (repeat (with_reducible refine And.intro ?_ ?_; (first | omega | (intro _; omega) | decide | (exact nfB) | (intro _; exact nfB) | (intro hg; refine ⟨hg, ?_⟩; omega) | (simp; done) | (simp; omega) | (intro hg; simp at hg; done) | (intro hg; simp at hg ⊢; first | omega | exact hg | grind))))
        refine hK8 _ _ ?_
        try clear hK8 K8
        refine AWp.mask [true, true, false, true, true, true] rfl ?_
        simp only [go_sem]
        refine AWp.rs fun K9 hK9 => ?_
        try simp only [go_sem, icast, Nat.zero_add, fb1, fb2, fb5]
        (repeat (with_reducible refine And.intro ?_ ?_; (first | omega | (intro _; omega) | decide | (exact nfB) | (intro _; exact nfB) | (intro hg; refine ⟨hg, ?_⟩; omega) | (simp; done) | (simp; omega) | (intro hg; simp at hg; done) | (intro hg; simp at hg ⊢; first | omega | exact hg | grind))))
        refine hK9 _ _ ?_
        try clear hK9 K9
        refine AWp.cond _ rfl (fun hc1 => ?_) (fun hc1 => ?_)
        · skip
          try simp only [decide_eq_true_eq, decide_eq_false_iff_not, Bool.not_eq_true', Bool.not_eq_false', Bool.and_eq_true, Bool.or_eq_true, Bool.and_eq_false_iff, Bool.or_eq_false_iff, Int.not_lt, Int.not_le, beq_iff_eq, beq_eq_false_iff_ne, ne_eq, Bool.not_eq_true, Bool.not_eq_false] at hc1
          refine AWp.rs fun K10 hK10 => ?_
          try simp only [go_sem, icast, Nat.zero_add, fb1, fb2, fb5]
          (repeat (with_reducible refine And.intro ?_ ?_; (first | omega | (intro _; omega) | decide | (exact nfB) | (intro _; exact nfB) | (intro hg; refine ⟨hg, ?_⟩; omega) | (simp; done) | (simp; omega) | (intro hg; simp at hg; done) | (intro hg; simp at hg ⊢; first | omega | exact hg | grind))))
          refine hK10 _ _ ?_
          try clear hK10 K10
          refine AWp.mask [false, true, true] rfl ?_
          simp only [go_sem]
          refine AWp.ret ?_
          try simp only [go_sem, icast, Nat.zero_add, fb1, fb2, fb5]
          rw [ltr_1 hc1]; simp [LeA, LeL, LeD, fldsD]
        · skip
          try simp only [decide_eq_true_eq, decide_eq_false_iff_not, Bool.not_eq_true', Bool.not_eq_false', Bool.and_eq_true, Bool.or_eq_true, Bool.and_eq_false_iff, Bool.or_eq_false_iff, Int.not_lt, Int.not_le, beq_iff_eq, beq_eq_false_iff_ne, ne_eq, Bool.not_eq_true, Bool.not_eq_false] at hc1
          refine AWp.skip ?_
          refine blkQ_n (thenQ_n ?_)
          refine hK6 _ _ ?_
          try clear hK6 K6
          refine AWp.rk fun K11 hK11 => ?_
          try simp only [go_sem, icast, Nat.zero_add, fb1, fb2, fb5]
          (repeat (with_reducible refine And.intro ?_ ?_; (first | omega | (intro _; omega) | decide | (exact nfB) | (intro _; exact nfB) | (intro hg; refine ⟨hg, ?_⟩; omega) | (simp; done) | (simp; omega) | (intro hg; simp at hg; done) | (intro hg; simp at hg ⊢; first | omega | exact hg | grind))))
          refine hK11 _ _ ?_
          try clear hK11 K11
          refine thenQ_n ?_
          refine EndS.mk [true, true, false, true] [false, false, false, false, true] [b5] [] [b2, b1] [] rfl ?_ ?_
          · (try simp only [go_sem, icast, Nat.zero_add, fb1, fb2, fb5]) <;> try rfl
          refine .e ⟨_, ?_, 1, rfl, ?_, ?_, ?_, ?_, ?_⟩
          · first | omega | (simp; omega) | (grind)
          · (try simp only [go_sem, icast, Nat.zero_add, fb1, fb2, fb5]) <;> first | exact ⟨rfl⟩ | (constructor; simp; done)
          · (try simp only [go_sem, icast, Nat.zero_add, fb1, fb2, fb5]) <;> first | exact ⟨rfl⟩ | (constructor; simp; done)
          all_goals first | omega | (intro _; omega) | (intro _; assumption) | (intro hq; omega)
      · skip
        refine AWp.rs fun K7 hK7 => ?_
        try simp only [go_sem, icast, Nat.zero_add, fb1, fb2]
        (repeat (with_reducible refine And.intro ?_ ?_; (first | omega | (intro _; omega) | decide | (exact nfB) | (intro _; exact nfB) | (intro hg; refine ⟨hg, ?_⟩; omega) | (simp; done) | (simp; omega) | (intro hg; simp at hg; done) | (intro hg; simp at hg ⊢; first | omega | exact hg | grind))))
        intro b5
        first | intro fb5 | have fb5 := True.intro
        try simp only [freshL] at fb5
        try simp only [go_sem, icast, Nat.zero_add, fb1, fb2, fb5]
        (repeat (with_reducible refine And.intro ?_ ?_; (first | omega | (intro _; omega) | decide | (exact nfB) | (intro _; exact nfB) | (intro hg; refine ⟨hg, ?_⟩; omega) | (simp; done) | (simp; omega) | (intro hg; simp at hg; done) | (intro hg; simp at hg ⊢; first | omega | exact hg | grind))))
        refine hK7 _ _ ?_
        try clear hK7 K7
        refine AWp.rs fun K12 hK12 => ?_
        try simp only [go_sem, icast, Nat.zero_add, fb1, fb2, fb5]
        (repeat (with_reducible refine And.intro ?_ ?_; (first | omega | (intro _; omega) | decide | (exact nfB) | (intro _; exact nfB) | (intro hg; refine ⟨hg, ?_⟩; omega) | (simp; done) | (simp; omega) | (intro hg; simp at hg; done) | (intro hg; simp at hg ⊢; first | omega | exact hg | grind))))
        refine DW.pcr rfl rfl rfl rfl (whoCheck_p T hL c1 c2 ok.h3 ok.h4) rfl rfl ?_
        try simp only [go_sem, icast, Nat.zero_add, fb1, fb2, fb5]
        (repeat (with_reducible refine And.intro ?_ ?_; (first | omega | (intro _; omega) | decide | (exact nfB) | (intro _; exact nfB) | (intro hg; refine ⟨hg, ?_⟩; omega) | (simp; done) | (simp; omega) | (intro hg; simp at hg; done) | (intro hg; simp at hg ⊢; first | omega | exact hg | grind))))
        refine hK12 _ _ ?_
        try clear hK12 K12
        refine AWp.mask [true, true, false, true, true, true] rfl ?_
        simp only [go_sem]
        refine AWp.rs fun K13 hK13 => ?_
        try simp only [go_sem, icast, Nat.zero_add, fb1, fb2, fb5]
        (repeat (with_reducible refine And.intro ?_ ?_; (first | omega | (intro _; omega) | decide | (exact nfB) | (intro _; exact nfB) | (intro hg; refine ⟨hg, ?_⟩; omega) | (simp; done) | (simp; omega) | (intro hg; simp at hg; done) | (intro hg; simp at hg ⊢; first | omega | exact hg | grind))))
        refine hK13 _ _ ?_
        try clear hK13 K13
        refine AWp.cond _ rfl (fun hc1 => ?_) (fun hc1 => ?_)
        · skip
          try simp only [decide_eq_true_eq, decide_eq_false_iff_not, Bool.not_eq_true', Bool.not_eq_false', Bool.and_eq_true, Bool.or_eq_true, Bool.and_eq_false_iff, Bool.or_eq_false_iff, Int.not_lt, Int.not_le, beq_iff_eq, beq_eq_false_iff_ne, ne_eq, Bool.not_eq_true, Bool.not_eq_false] at hc1
          refine AWp.rs fun K14 hK14 => ?_
          try simp only [go_sem, icast, Nat.zero_add, fb1, fb2, fb5]
          (repeat (with_reducible refine And.intro ?_ ?_; (first | omega | (intro _; omega) | decide | (exact nfB) | (intro _; exact nfB) | (intro hg; refine ⟨hg, ?_⟩; omega) | (simp; done) | (simp; omega) | (intro hg; simp at hg; done) | (intro hg; simp at hg ⊢; first | omega | exact hg | grind))))
          refine hK14 _ _ ?_
          try clear hK14 K14
          refine AWp.mask [false, true, true] rfl ?_
          simp only [go_sem]
          refine AWp.ret ?_
          try simp only [go_sem, icast, Nat.zero_add, fb1, fb2, fb5]
          rw [ltr_2 (h2 (by omega)) hc1]; simp [LeA, LeL, LeD, fldsD]
        · skip
          try simp only [decide_eq_true_eq, decide_eq_false_iff_not, Bool.not_eq_true', Bool.not_eq_false', Bool.and_eq_true, Bool.or_eq_true, Bool.and_eq_false_iff, Bool.or_eq_false_iff, Int.not_lt, Int.not_le, beq_iff_eq, beq_eq_false_iff_ne, ne_eq, Bool.not_eq_true, Bool.not_eq_false] at hc1
          refine AWp.skip ?_
          refine blkQ_n (thenQ_n ?_)
          refine hK6 _ _ ?_
          try clear hK6 K6
          refine AWp.rk fun K15 hK15 => ?_
          try simp only [go_sem, icast, Nat.zero_add, fb1, fb2, fb5]
          (repeat (with_reducible refine And.intro ?_ ?_; (first | omega | (intro _; omega) | decide | (exact nfB) | (intro _; exact nfB) | (intro hg; refine ⟨hg, ?_⟩; omega) | (simp; done) | (simp; omega) | (intro hg; simp at hg; done) | (intro hg; simp at hg ⊢; first | omega | exact hg | grind))))
          refine hK15 _ _ ?_
          try clear hK15 K15
          refine thenQ_n ?_
          refine EndS.mk [true, true, false, true] [false, false, false, false, true] [b5] [] [b2, b1] [] rfl ?_ ?_
          · (try simp only [go_sem, icast, Nat.zero_add, fb1, fb2, fb5]) <;> try rfl
          refine .e ⟨_, ?_, 2, rfl, ?_, ?_, ?_, ?_, ?_⟩
          · first | omega | (simp; omega) | (grind)
          · (try simp only [go_sem, icast, Nat.zero_add, fb1, fb2, fb5]) <;> first | exact ⟨rfl⟩ | (constructor; simp; done)
          · (try simp only [go_sem, icast, Nat.zero_add, fb1, fb2, fb5]) <;> first | exact ⟨rfl⟩ | (constructor; simp; done)
          all_goals first | omega | (intro _; omega) | (intro _; assumption) | (intro hq; omega)
    · skip
      try simp only [decide_eq_true_eq, decide_eq_false_iff_not, Bool.not_eq_true', Bool.not_eq_false', Bool.and_eq_true, Bool.or_eq_true, Bool.and_eq_false_iff, Bool.or_eq_false_iff, Int.not_lt, Int.not_le, beq_iff_eq, beq_eq_false_iff_ne, ne_eq, Bool.not_eq_true, Bool.not_eq_false] at hc0
      have hj : j = 2 := by omega
      refine AWp.exit ?_
      refine thenQ_e (thenQ_e (blkQ_e (thenQ_n ?_)))
      refine hK2 _ _ ?_
      try clear hK2 K2
      refine AWp.rs fun K16 hK16 => ?_
      try simp only [go_sem, icast, Nat.zero_add, fb1, fb2]
      (repeat (with_reducible refine And.intro ?_ ?_; (first | omega | (intro _; omega) | decide | (exact nfB) | (intro _; exact nfB) | (intro hg; refine ⟨hg, ?_⟩; omega) | (simp; done) | (simp; omega) | (intro hg; simp at hg; done) | (intro hg; simp at hg ⊢; first | omega | exact hg | grind))))
      refine DW.pcr rfl rfl rfl rfl (Parse_c T hL s) rfl rfl ?_
      try simp only [go_sem, icast, Nat.zero_add, fb1, fb2]
      (repeat (with_reducible refine And.intro ?_ ?_; (first | omega | (intro _; omega) | decide | (exact nfB) | (intro _; exact nfB) | (intro hg; refine ⟨hg, ?_⟩; omega) | (simp; done) | (simp; omega) | (intro hg; simp at hg; done) | (intro hg; simp at hg ⊢; first | omega | exact hg | grind))))
      intro b7
      first | intro fb7 | have fb7 := True.intro
      try simp only [freshL] at fb7
      try simp only [go_sem, icast, Nat.zero_add, fb1, fb2, fb7]
      (repeat (with_reducible refine And.intro ?_ ?_; (first | omega | (intro _; omega) | decide | (exact nfB) | (intro _; exact nfB) | (intro hg; refine ⟨hg, ?_⟩; omega) | (simp; done) | (simp; omega) | (intro hg; simp at hg; done) | (intro hg; simp at hg ⊢; first | omega | exact hg | grind))))
      refine hK16 _ _ ?_
      try clear hK16 K16
      refine AWp.mask [false, true, true, false, true] rfl ?_
      simp only [go_sem]
      refine AWp.rs fun K17 hK17 => ?_
      try simp only [go_sem, icast, Nat.zero_add, fb1, fb2, fb7]
      (repeat (with_reducible refine And.intro ?_ ?_; (first | omega | (intro _; omega) | decide | (exact nfB) | (intro _; exact nfB) | (intro hg; refine ⟨hg, ?_⟩; omega) | (simp; done) | (simp; omega) | (intro hg; simp at hg; done) | (intro hg; simp at hg ⊢; first | omega | exact hg | grind))))
      refine hK17 _ _ ?_
      try clear hK17 K17
      refine AWp.mask [true, true] rfl ?_
      simp only [go_sem]
      refine AWp.ret ?_
      try simp only [go_sem, icast, Nat.zero_add, fb1, fb2, fb7]
      rw [ltr_3 (h2 (by omega)) (h3 (by omega))]; simp [LeA, LeL, LeD]
set_option maxRecDepth 4000 in
set_option maxHeartbeats 1000000 in
theorem LetterOf_c (T : Tbl) (hL : LibT T) (a1 a2 c1 c2 s : Tx) (ok : LtrOk a1 a2 c1 c2) : PC Tryd.prog T 48 [.agg [.d (.str a1), .d (.str a2), .d (.str c1), .d (.str c2), .d (.str s)]] (.tup [.agg [.d (.slc 2 (fldsD (ltrM a1 a2 c1 c2 s).1)), .d (.str ((ltrM a1 a2 c1 c2 s).2.1))], .d (.int .i64 ((ltrM a1 a2 c1 c2 s).2.2))]) := by
  refine ⟨Tryd.call48, PCall.enterS Tryd.func48 rfl Tryd.ntmps48 rfl fun hb => ?_⟩
  simp only [go_sem, Tryd.results48]
  refine AWp.rs fun K1 hK1 => ?_
  try simp only [go_sem, icast, Nat.zero_add]
  (repeat (with_reducible refine And.intro ?_ ?_; (first | omega | (intro _; omega) | decide | (exact nfB) | (intro _; exact nfB) | (intro hg; refine ⟨hg, ?_⟩; omega) | (simp; done) | (simp; omega) | (intro hg; simp at hg; done) | (intro hg; simp at hg ⊢; first | omega | exact hg | grind))))
  intro b1
  first | intro fb1 | have fb1 := True.intro
  try simp only [freshL] at fb1
  try simp only [go_sem, icast, Nat.zero_add, fb1]
  (repeat (with_reducible refine And.intro ?_ ?_; (first | omega | (intro _; omega) | decide | (exact nfB) | (intro _; exact nfB) | (intro hg; refine ⟨hg, ?_⟩; omega) | (simp; done) | (simp; omega) | (intro hg; simp at hg; done) | (intro hg; simp at hg ⊢; first | omega | exact hg | grind))))
  intro b2
  first | intro fb2 | have fb2 := True.intro
  try simp only [freshL] at fb2
  try simp only [go_sem, icast, Nat.zero_add, fb1, fb2]
  (repeat (with_reducible refine And.intro ?_ ?_; (first | omega | (intro _; omega) | decide | (exact nfB) | (intro _; exact nfB) | (intro hg; refine ⟨hg, ?_⟩; omega) | (simp; done) | (simp; omega) | (intro hg; simp at hg; done) | (intro hg; simp at hg ⊢; first | omega | exact hg | grind))))
  refine hK1 _ _ ?_
  try clear hK1 K1
  refine AWp.rs fun K2 hK2 => ?_
  try simp only [go_sem, icast, Nat.zero_add, fb1, fb2]
  (repeat (with_reducible refine And.intro ?_ ?_; (first | omega | (intro _; omega) | decide | (exact nfB) | (intro _; exact nfB) | (intro hg; refine ⟨hg, ?_⟩; omega) | (simp; done) | (simp; omega) | (intro hg; simp at hg; done) | (intro hg; simp at hg ⊢; first | omega | exact hg | grind))))
  refine DW.pcr rfl rfl rfl rfl (addrFault_p T a1 a2 ok.h1 ok.h2) rfl rfl ?_
  try simp only [go_sem, icast, Nat.zero_add, fb1, fb2]
  (repeat (with_reducible refine And.intro ?_ ?_; (first | omega | (intro _; omega) | decide | (exact nfB) | (intro _; exact nfB) | (intro hg; refine ⟨hg, ?_⟩; omega) | (simp; done) | (simp; omega) | (intro hg; simp at hg; done) | (intro hg; simp at hg ⊢; first | omega | exact hg | grind))))
  refine hK2 _ _ ?_
  try clear hK2 K2
  refine AWp.mask [false, true, true, false, true] rfl ?_
  simp only [go_sem]
  refine AWp.seq fun K3 hK3 => ?_
  refine AWp.rs fun K4 hK4 => ?_
  try simp only [go_sem, icast, Nat.zero_add, fb1, fb2]
  (repeat (with_reducible refine And.intro ?_ ?_; (first | omega | (intro _; omega) | decide | (exact nfB) | (intro _; exact nfB) | (intro hg; refine ⟨hg, ?_⟩; omega) | (simp; done) | (simp; omega) | (intro hg; simp at hg; done) | (intro hg; simp at hg ⊢; first | omega | exact hg | grind))))
  refine hK4 _ _ ?_
  try clear hK4 K4
  refine AWp.cond _ rfl (fun hc0 => ?_) (fun hc0 => ?_)
  · skip
    try simp only [decide_eq_true_eq, decide_eq_false_iff_not, Bool.not_eq_true', Bool.not_eq_false', Bool.and_eq_true, Bool.or_eq_true, Bool.and_eq_false_iff, Bool.or_eq_false_iff, Int.not_lt, Int.not_le, beq_iff_eq, beq_eq_false_iff_ne, ne_eq, Bool.not_eq_true, Bool.not_eq_false] at hc0
    refine AWp.rk fun K5 hK5 => ?_
    try simp only [go_sem, icast, Nat.zero_add, fb1, fb2]
    (repeat (with_reducible refine And.intro ?_ ?_; (first | omega | (intro _; omega) | decide | (exact nfB) | (intro _; exact nfB) | (intro hg; refine ⟨hg, ?_⟩; omega) | (simp; done) | (simp; omega) | (intro hg; simp at hg; done) | (intro hg; simp at hg ⊢; first | omega | exact hg | grind))))
    refine DW.pcr rfl rfl rfl rfl (addrFault_p T c1 c2 ok.h3 ok.h4) rfl rfl ?_
    try simp only [go_sem, icast, Nat.zero_add, fb1, fb2]
    (repeat (with_reducible refine And.intro ?_ ?_; (first | omega | (intro _; omega) | decide | (exact nfB) | (intro _; exact nfB) | (intro hg; refine ⟨hg, ?_⟩; omega) | (simp; done) | (simp; omega) | (intro hg; simp at hg; done) | (intro hg; simp at hg ⊢; first | omega | exact hg | grind))))
    refine hK5 _ _ ?_
    try clear hK5 K5
    refine thenQ_n ?_
    refine hK3 _ _ ?_
    try clear hK3 K3
    refine AWp.mask [true, true, true] rfl ?_
    simp only [go_sem]
    refine AWp.seq fun K6 hK6 => ?_
    refine AWp.rs fun K7 hK7 => ?_
    try simp only [go_sem, icast, Nat.zero_add, fb1, fb2]
    (repeat (with_reducible refine And.intro ?_ ?_; (first | omega | (intro _; omega) | decide | (exact nfB) | (intro _; exact nfB) | (intro hg; refine ⟨hg, ?_⟩; omega) | (simp; done) | (simp; omega) | (intro hg; simp at hg; done) | (intro hg; simp at hg ⊢; first | omega | exact hg | grind))))
    refine hK7 _ _ ?_
    try clear hK7 K7
    refine AWp.cond _ rfl (fun hc1 => ?_) (fun hc1 => ?_)
    · skip
      try simp only [decide_eq_true_eq, decide_eq_false_iff_not, Bool.not_eq_true', Bool.not_eq_false', Bool.and_eq_true, Bool.or_eq_true, Bool.and_eq_false_iff, Bool.or_eq_false_iff, Int.not_lt, Int.not_le, beq_iff_eq, beq_eq_false_iff_ne, ne_eq, Bool.not_eq_true, Bool.not_eq_false] at hc1
      refine AWp.rs fun K8 hK8 => ?_
      try simp only [go_sem, icast, Nat.zero_add, fb1, fb2]
      (repeat (with_reducible refine And.intro ?_ ?_; (first | omega | (intro _; omega) | decide | (exact nfB) | (intro _; exact nfB) | (intro hg; refine ⟨hg, ?_⟩; omega) | (simp; done) | (simp; omega) | (intro hg; simp at hg; done) | (intro hg; simp at hg ⊢; first | omega | exact hg | grind))))
      refine hK8 _ _ ?_
      try clear hK8 K8
      refine AWp.mask [false, true, true] rfl ?_
      simp only [go_sem]
      refine AWp.ret ?_
      try simp only [go_sem, icast, Nat.zero_add, fb1, fb2]
      first | (rw [ltr_2 hc0 hc1]; simp [LeA, LeL, LeD, fldsD]; done) | (rw [ltr_1 hc0]; simp [LeA, LeL, LeD, fldsD])
    · skip
      try simp only [decide_eq_true_eq, decide_eq_false_iff_not, Bool.not_eq_true', Bool.not_eq_false', Bool.and_eq_true, Bool.or_eq_true, Bool.and_eq_false_iff, Bool.or_eq_false_iff, Int.not_lt, Int.not_le, beq_iff_eq, beq_eq_false_iff_ne, ne_eq, Bool.not_eq_true, Bool.not_eq_false] at hc1
      refine AWp.skip ?_
      refine thenQ_n ?_
      refine hK6 _ _ ?_
      try clear hK6 K6
      refine AWp.rs fun K9 hK9 => ?_
      try simp only [go_sem, icast, Nat.zero_add, fb1, fb2]
      (repeat (with_reducible refine And.intro ?_ ?_; (first | omega | (intro _; omega) | decide | (exact nfB) | (intro _; exact nfB) | (intro hg; refine ⟨hg, ?_⟩; omega) | (simp; done) | (simp; omega) | (intro hg; simp at hg; done) | (intro hg; simp at hg ⊢; first | omega | exact hg | grind))))
      refine DW.pcr rfl rfl rfl rfl (MessageOf_c T s) rfl rfl ?_
      try simp only [go_sem, icast, Nat.zero_add, fb1, fb2]
      (repeat (with_reducible refine And.intro ?_ ?_; (first | omega | (intro _; omega) | decide | (exact nfB) | (intro _; exact nfB) | (intro hg; refine ⟨hg, ?_⟩; omega) | (simp; done) | (simp; omega) | (intro hg; simp at hg; done) | (intro hg; simp at hg ⊢; first | omega | exact hg | grind))))
      intro b5
      first | intro fb5 | have fb5 := True.intro
      try simp only [freshL] at fb5
      try simp only [go_sem, icast, Nat.zero_add, fb1, fb2, fb5]
      (repeat (with_reducible refine And.intro ?_ ?_; (first | omega | (intro _; omega) | decide | (exact nfB) | (intro _; exact nfB) | (intro hg; refine ⟨hg, ?_⟩; omega) | (simp; done) | (simp; omega) | (intro hg; simp at hg; done) | (intro hg; simp at hg ⊢; first | omega | exact hg | grind))))
      refine hK9 _ _ ?_
      try clear hK9 K9
      refine AWp.mask [false, true, true, true] rfl ?_
      simp only [go_sem]
      refine AWp.rs fun K10 hK10 => ?_
      try simp only [go_sem, icast, Nat.zero_add, fb1, fb2, fb5]
      (repeat (with_reducible refine And.intro ?_ ?_; (first | omega | (intro _; omega) | decide | (exact nfB) | (intro _; exact nfB) | (intro hg; refine ⟨hg, ?_⟩; omega) | (simp; done) | (simp; omega) | (intro hg; simp at hg; done) | (intro hg; simp at hg ⊢; first | omega | exact hg | grind))))
      refine hK10 _ _ ?_
      try clear hK10 K10
      refine AWp.mask [true, true] rfl ?_
      simp only [go_sem]
      refine AWp.ret ?_
      try simp only [go_sem, icast, Nat.zero_add, fb1, fb2, fb5]
      first | exact absurd hc1 hc0 | (rw [ltr_3 hc0 hc1]; simp [LeA, LeL, LeD])
  · skip
    try simp only [decide_eq_true_eq, decide_eq_false_iff_not, Bool.not_eq_true', Bool.not_eq_false', Bool.and_eq_true, Bool.or_eq_true, Bool.and_eq_false_iff, Bool.or_eq_false_iff, Int.not_lt, Int.not_le, beq_iff_eq, beq_eq_false_iff_ne, ne_eq, Bool.not_eq_true, Bool.not_eq_false] at hc0
    refine AWp.skip ?_
    refine thenQ_n ?_
    refine hK3 _ _ ?_
    try clear hK3 K3
    refine AWp.seq fun K11 hK11 => ?_
    refine AWp.rs fun K12 hK12 => ?_
    try simp only [go_sem, icast, Nat.zero_add, fb1, fb2]
    (repeat (with_reducible refine And.intro ?_ ?_; (first | omega | (intro _; omega) | decide | (exact nfB) | (intro _; exact nfB) | (intro hg; refine ⟨hg, ?_⟩; omega) | (simp; done) | (simp; omega) | (intro hg; simp at hg; done) | (intro hg; simp at hg ⊢; first | omega | exact hg | grind))))
    refine hK12 _ _ ?_
    try clear hK12 K12
    refine AWp.cond _ rfl (fun hc1 => ?_) (fun hc1 => ?_)
    · skip
      try simp only [decide_eq_true_eq, decide_eq_false_iff_not, Bool.not_eq_true', Bool.not_eq_false', Bool.and_eq_true, Bool.or_eq_true, Bool.and_eq_false_iff, Bool.or_eq_false_iff, Int.not_lt, Int.not_le, beq_iff_eq, beq_eq_false_iff_ne, ne_eq, Bool.not_eq_true, Bool.not_eq_false] at hc1
      refine AWp.rs fun K13 hK13 => ?_
      try simp only [go_sem, icast, Nat.zero_add, fb1, fb2]
      (repeat (with_reducible refine And.intro ?_ ?_; (first | omega | (intro _; omega) | decide | (exact nfB) | (intro _; exact nfB) | (intro hg; refine ⟨hg, ?_⟩; omega) | (simp; done) | (simp; omega) | (intro hg; simp at hg; done) | (intro hg; simp at hg ⊢; first | omega | exact hg | grind))))
      refine hK13 _ _ ?_
      try clear hK13 K13
      refine AWp.mask [false, true, true] rfl ?_
      simp only [go_sem]
      refine AWp.ret ?_
      try simp only [go_sem, icast, Nat.zero_add, fb1, fb2]
      first | (rw [ltr_2 hc0 hc1]; simp [LeA, LeL, LeD, fldsD]; done) | (rw [ltr_1 hc0]; simp [LeA, LeL, LeD, fldsD])
    · skip
      try simp only [decide_eq_true_eq, decide_eq_false_iff_not, Bool.not_eq_true', Bool.not_eq_false', Bool.and_eq_true, Bool.or_eq_true, Bool.and_eq_false_iff, Bool.or_eq_false_iff, Int.not_lt, Int.not_le, beq_iff_eq, beq_eq_false_iff_ne, ne_eq, Bool.not_eq_true, Bool.not_eq_false] at hc1
      refine AWp.skip ?_
      refine thenQ_n ?_
      refine hK11 _ _ ?_
      try clear hK11 K11
      refine AWp.mask [true, true] rfl ?_
      simp only [go_sem]
      refine AWp.rs fun K14 hK14 => ?_
      try simp only [go_sem, icast, Nat.zero_add, fb1, fb2]
      (repeat (with_reducible refine And.intro ?_ ?_; (first | omega | (intro _; omega) | decide | (exact nfB) | (intro _; exact nfB) | (intro hg; refine ⟨hg, ?_⟩; omega) | (simp; done) | (simp; omega) | (intro hg; simp at hg; done) | (intro hg; simp at hg ⊢; first | omega | exact hg | grind))))
      refine DW.pcr rfl rfl rfl rfl (MessageOf_c T s) rfl rfl ?_
      try simp only [go_sem, icast, Nat.zero_add, fb1, fb2]
      (repeat (with_reducible refine And.intro ?_ ?_; (first | omega | (intro _; omega) | decide | (exact nfB) | (intro _; exact nfB) | (intro hg; refine ⟨hg, ?_⟩; omega) | (simp; done) | (simp; omega) | (intro hg; simp at hg; done) | (intro hg; simp at hg ⊢; first | omega | exact hg | grind))))
      intro b5
      first | intro fb5 | have fb5 := True.intro
      try simp only [freshL] at fb5
      try simp only [go_sem, icast, Nat.zero_add, fb1, fb2, fb5]
      (repeat (with_reducible refine And.intro ?_ ?_; (first | omega | (intro _; omega) | decide | (exact nfB) | (intro _; exact nfB) | (intro hg; refine ⟨hg, ?_⟩; omega) | (simp; done) | (simp; omega) | (intro hg; simp at hg; done) | (intro hg; simp at hg ⊢; first | omega | exact hg | grind))))
      refine hK14 _ _ ?_
      try clear hK14 K14
      refine AWp.mask [false, true, true, true] rfl ?_
      simp only [go_sem]
      refine AWp.rs fun K15 hK15 => ?_
      try simp only [go_sem, icast, Nat.zero_add, fb1, fb2, fb5]
      (repeat (with_reducible refine And.intro ?_ ?_; (first | omega | (intro _; omega) | decide | (exact nfB) | (intro _; exact nfB) | (intro hg; refine ⟨hg, ?_⟩; omega) | (simp; done) | (simp; omega) | (intro hg; simp at hg; done) | (intro hg; simp at hg ⊢; first | omega | exact hg | grind))))
      refine hK15 _ _ ?_
      try clear hK15 K15
      refine AWp.mask [true, true] rfl ?_
      simp only [go_sem]
      refine AWp.ret ?_
      try simp only [go_sem, icast, Nat.zero_add, fb1, fb2, fb5]
      first | exact absurd hc1 hc0 | (rw [ltr_3 hc0 hc1]; simp [LeA, LeL, LeD])
set_option maxRecDepth 4000 in
set_option maxHeartbeats 1000000 in
theorem judgeChecks_c (T : Tbl) (hL : LibT T) (a1 a2 c1 c2 s : Tx) (ok : LtrOk a1 a2 c1 c2) : PC Tryd.prog T 13 [.agg [.d (.str a1), .d (.str a2), .d (.str c1), .d (.str c2), .d (.str s)]] (.d (.bool true)) := by
  refine ⟨Tryd.call13, PCall.enterS Tryd.func13 rfl Tryd.ntmps13 rfl fun hb => ?_⟩
  simp only [go_sem, Tryd.results13]
  refine AWp.rs fun K1 hK1 => ?_
  try simp only [go_sem, decide_true, Bool.true_and]
  (repeat (with_reducible refine And.intro ?_ ?_; (first | omega | (intro _; omega) | decide | (exact nfB) | (intro _; exact nfB) | (intro hg; refine ⟨hg, ?_⟩; omega) | (simp; done) | (simp; omega) | (intro hg; simp at hg; done) | (intro hg; simp at hg ⊢; first | omega | exact hg | grind))))
  intro b1
  first | intro fb1 | have fb1 := True.intro
  try simp only [freshL] at fb1
  try simp only [go_sem, decide_true, Bool.true_and, fb1]
  (repeat (with_reducible refine And.intro ?_ ?_; (first | omega | (intro _; omega) | decide | (exact nfB) | (intro _; exact nfB) | (intro hg; refine ⟨hg, ?_⟩; omega) | (simp; done) | (simp; omega) | (intro hg; simp at hg; done) | (intro hg; simp at hg ⊢; first | omega | exact hg | grind))))
  refine hK1 _ _ ?_
  try clear hK1 K1
  refine AWp.rs fun K2 hK2 => ?_
  try simp only [go_sem, decide_true, Bool.true_and, fb1]
  (repeat (with_reducible refine And.intro ?_ ?_; (first | omega | (intro _; omega) | decide | (exact nfB) | (intro _; exact nfB) | (intro hg; refine ⟨hg, ?_⟩; omega) | (simp; done) | (simp; omega) | (intro hg; simp at hg; done) | (intro hg; simp at hg ⊢; first | omega | exact hg | grind))))
  refine DW.pcr rfl rfl rfl rfl (JCheck_c T hL a1 a2 c1 c2 s ok) rfl rfl ?_
  try simp only [go_sem, decide_true, Bool.true_and, fb1]
  (repeat (with_reducible refine And.intro ?_ ?_; (first | omega | (intro _; omega) | decide | (exact nfB) | (intro _; exact nfB) | (intro hg; refine ⟨hg, ?_⟩; omega) | (simp; done) | (simp; omega) | (intro hg; simp at hg; done) | (intro hg; simp at hg ⊢; first | omega | exact hg | grind))))
  intro b3
  first | intro fb3 | have fb3 := True.intro
  try simp only [freshL] at fb3
  try simp only [go_sem, decide_true, Bool.true_and, fb1, fb3]
  (repeat (with_reducible refine And.intro ?_ ?_; (first | omega | (intro _; omega) | decide | (exact nfB) | (intro _; exact nfB) | (intro hg; refine ⟨hg, ?_⟩; omega) | (simp; done) | (simp; omega) | (intro hg; simp at hg; done) | (intro hg; simp at hg ⊢; first | omega | exact hg | grind))))
  refine hK2 _ _ ?_
  try clear hK2 K2
  refine AWp.mask [false, true, false, true, true] rfl ?_
  simp only [go_sem]
  refine AWp.rs fun K3 hK3 => ?_
  try simp only [go_sem, decide_true, Bool.true_and, fb1, fb3]
  (repeat (with_reducible refine And.intro ?_ ?_; (first | omega | (intro _; omega) | decide | (exact nfB) | (intro _; exact nfB) | (intro hg; refine ⟨hg, ?_⟩; omega) | (simp; done) | (simp; omega) | (intro hg; simp at hg; done) | (intro hg; simp at hg ⊢; first | omega | exact hg | grind))))
  refine DW.pcr rfl rfl rfl rfl (LetterOf_c T hL a1 a2 c1 c2 s ok) rfl rfl ?_
  try simp only [go_sem, decide_true, Bool.true_and, fb1, fb3]
  (repeat (with_reducible refine And.intro ?_ ?_; (first | omega | (intro _; omega) | decide | (exact nfB) | (intro _; exact nfB) | (intro hg; refine ⟨hg, ?_⟩; omega) | (simp; done) | (simp; omega) | (intro hg; simp at hg; done) | (intro hg; simp at hg ⊢; first | omega | exact hg | grind))))
  intro b5
  first | intro fb5 | have fb5 := True.intro
  try simp only [freshL] at fb5
  try simp only [go_sem, decide_true, Bool.true_and, fb1, fb3, fb5]
  (repeat (with_reducible refine And.intro ?_ ?_; (first | omega | (intro _; omega) | decide | (exact nfB) | (intro _; exact nfB) | (intro hg; refine ⟨hg, ?_⟩; omega) | (simp; done) | (simp; omega) | (intro hg; simp at hg; done) | (intro hg; simp at hg ⊢; first | omega | exact hg | grind))))
  refine hK3 _ _ ?_
  try clear hK3 K3
  refine AWp.mask [false, true, true, true, true] rfl ?_
  simp only [go_sem]
  refine AWp.rs fun K4 hK4 => ?_
  try simp only [go_sem, decide_true, Bool.true_and, fb1, fb3, fb5]
  (repeat (with_reducible refine And.intro ?_ ?_; (first | omega | (intro _; omega) | decide | (exact nfB) | (intro _; exact nfB) | (intro hg; refine ⟨hg, ?_⟩; omega) | (simp; done) | (simp; omega) | (intro hg; simp at hg; done) | (intro hg; simp at hg ⊢; first | omega | exact hg | grind))))
  refine DW.pcgr rfl rfl rfl rfl rfl (fun hg => sameMessage_c T (ltrM a1 a2 c1 c2 s).1 (ltrM a1 a2 c1 c2 s).2.1 (by have := ltrM_len (a1 := a1) (a2 := a2) (c1 := c1) (c2 := c2) (s := s); omega)) (fun hg => by (try simp only [go_sem, decide_true, Bool.true_and, fb1, fb3, fb5]) <;> first | exact hg | (exfalso; simp at hg; done) | (simpa using hg) | grind) rfl rfl ?_
  try simp only [go_sem, decide_true, Bool.true_and, fb1, fb3, fb5]
  (repeat (with_reducible refine And.intro ?_ ?_; (first | omega | (intro _; omega) | decide | (exact nfB) | (intro _; exact nfB) | (intro hg; refine ⟨hg, ?_⟩; omega) | (simp; done) | (simp; omega) | (intro hg; simp at hg; done) | (intro hg; simp at hg ⊢; first | omega | exact hg | grind))))
  refine hK4 _ _ ?_
  try clear hK4 K4
  refine AWp.mask [true] rfl ?_
  simp only [go_sem]
  refine AWp.ret ?_
  try simp only [go_sem, decide_true, Bool.true_and, fb1, fb3, fb5]
  try simp [LeA, LeL, LeD]
end Go.Proofs.YthhfbolhlbgbgaaDoor

namespace Go.Proofs.YthhfbolhlbgbgaaDoor
open Go.RowKit Go.ChangeShapes Go.WideShapes Go.ChangeAt
set_option linter.unusedSimpArgs false
set_option linter.unusedVariables false
open Go.ChangeShapes Go.WideShapes Go.ChangeAt
set_option maxRecDepth 100000
theorem judgeChecks_run {H : Type} {enc : TypeId × Value → H} (W : World) (base : Nat) (v0 : Value) (d0 : DataW H) (p0 : List MemPlace)
    (k0 : Value.okWide Tryd.prog W .any base 82 v0) (h0 : DataW.Trod enc Tryd.prog W 0 (fun _ => true) true 82 v0 d0 p0) (t0 : Tiny d0)
    (hL : laidMetH Tryd.prog Rows.judgeChecksRow.laid W) (hsh : W.ShapedOpen Tryd.prog) :
    Calls Tryd.prog 13 #[v0] W fun e W' => e = .returned (.bool true) ∧ Below W.heap.size W W' := by
  obtain ⟨cs, rfl, hsz⟩ := okWide_struct Tryd.underlying82 k0
  obtain ⟨⟨⟨a1, a2⟩, ⟨c1, c2⟩, s⟩, hx, hr⟩ := Dec.open_ dec_ltr h0 t0
  dsimp only at hr
  have hx : VDs (frzW W) [.str a1, .str a2, .str c1, .str c2, .str s] cs.toList := hx
  obtain ⟨_, m, hm⟩ := Lib0.open_ hsh
  refine law_calls (T := libT m) (judgeChecks_c (libT m) (libT_lib m) a1 a2 c1 c2 s ⟨by omega, by omega, by omega, by omega⟩) (libT_ok hm) ⟨rfl, fun i a ha => ?_⟩
  match i, ha with
  | 0, ha =>
    simp at ha
    subst ha
    exact ⟨_, rfl, hx.agg (G := gh0 W (frzW W))⟩
  | i + 1, ha => simp at ha
end Go.Proofs.YthhfbolhlbgbgaaDoor

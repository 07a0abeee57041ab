/- Texts that the law BookDecodes rests on, packed. -/
import Derived.Test.YthhfbolhlbgbgaaDoorBookDecodesK5
import Derived.Test.YthhfbolhlbgbgaaDoorBookDecodesK1
namespace Go.Proofs.YthhfbolhlbgbgaaDoor
set_option linter.unusedSimpArgs false
set_option linter.unusedVariables false
def addrV (n : Nat) : Option (Ad × List Bt) → AV
  | some (a, t) => .tup [.agg [.d (.str a.1), .d (.str a.2)], .d (.int .i64 (n - t.length : Int))]
  | none => .tup [.agg [.d (.str []), .d (.str [])], .d (.int .i64 (-1))]
theorem plain_t {l : List Bt} {i : Nat} {a : Ad} {t : List Bt} (h : plainB (l.drop i) = some (a, t)) : t = l.drop (i + 3) ∧ i + 3 ≤ l.length := by
  have h1 := plainB_len h
  simp at h1
  refine ⟨?_, by omega⟩
  rcases Nat.lt_or_ge (i + 2) l.length with h2 | h2
  · rw [plain_in h2] at h
    split at h
    · injection h with h; injection h with _ h; exact h.symm
    · cases h
  · rw [plain_out h2] at h; cases h
theorem plainAt_none (T : Tbl) (hL : LibT T) (l : List Bt) (i : Nat) (hs : Short l) (hi : i ≤ 4096) (hl : l.length ≤ 4096) (hp : plainB (l.drop i) = none) : PC Tryd.prog T 143 [.d (.slc 4 (btsD l)), .d (.int .i64 i)] (.tup [.agg [.d (.str []), .d (.str [])], .d (.int .i64 0)]) := by
  have := plainAt_c T hL l i hs hi hl
  rw [hp] at this; exact this
theorem plainAt_some (T : Tbl) (hL : LibT T) (l : List Bt) (i : Nat) (hs : Short l) (hi : i ≤ 4096) (hl : l.length ≤ 4096) (a : Ad) (t : List Bt) (hp : plainB (l.drop i) = some (a, t)) : PC Tryd.prog T 143 [.d (.slc 4 (btsD l)), .d (.int .i64 i)] (.tup [.agg [.d (.str a.1), .d (.str a.2)], .d (.int .i64 3)]) := by
  have := plainAt_c T hL l i hs hi hl
  rw [hp] at this; exact this
theorem dropw_step {l : List Bt} {k : Nat} (h : k < l.length) (hw : wordB l[k] = true) : (l.drop k).dropWhile wordB = (l.drop (k + 1)).dropWhile wordB := by
  rw [List.drop_eq_getElem_cons h, List.dropWhile_cons, if_pos hw]
theorem dropw_end {l : List Bt} {k : Nat} (h : ∀ hk : k < l.length, wordB l[k] = false) : (l.drop k).dropWhile wordB = l.drop k := by
  rcases Nat.lt_or_ge k l.length with hk | hk
  · rw [List.drop_eq_getElem_cons hk, List.dropWhile_cons, if_neg (by rw [h hk]; decide)]
  · rw [List.drop_eq_nil_of_le hk]; rfl
theorem ang_nil {l : List Bt} {k : Nat} (h : l.length ≤ k) : angB (l.drop k) = none := by rw [List.drop_eq_nil_of_le h]; rfl
theorem ang_ne {l : List Bt} {k : Nat} (h : k < l.length) (hx : l[k].text ≠ [60]) : angB (l.drop k) = none := by
  rw [List.drop_eq_getElem_cons h]; simp [angB, hx]
theorem ang_np {l : List Bt} {k : Nat} (h : k < l.length) (hp : plainB (l.drop (k + 1)) = none) : angB (l.drop k) = none := by
  rw [List.drop_eq_getElem_cons h]; simp [angB, hp]
theorem ang_p {l : List Bt} {k : Nat} (h : k < l.length) (hx : l[k].text = [60]) {a : Ad} {t : List Bt} (hp : plainB (l.drop (k + 1)) = some (a, t)) (h1 : k + 1 < l.length) : angB (l.drop k) = if h4 : k + 4 < l.length then (if l[k + 1].apart = false ∧ l[k + 4].text = [62] ∧ l[k + 4].apart = false then some (a, l.drop (k + 5)) else none) else none := by
  obtain ⟨ht, hle⟩ := plain_t hp
  have hh : (l.drop (k + 1)).head?.map Bt.apart = some l[k + 1].apart := by rw [List.drop_eq_getElem_cons h1]; rfl
  rw [List.drop_eq_getElem_cons h]
  simp only [angB, hx, if_true, hp, hh, Option.some.injEq]
  subst ht
  rcases Nat.lt_or_ge (k + 4) l.length with h4 | h4
  · rw [dif_pos h4, List.drop_eq_getElem_cons (show k + 1 + 3 < l.length by omega)]
  · rw [dif_neg (by omega), List.drop_eq_nil_of_le (by omega)]
theorem addrB_some {l : List Bt} {x : Ad × List Bt} (h : plainB l = some x) : addrB l = some x := by unfold addrB; rw [h]
theorem addrB_none {l : List Bt} (h : plainB l = none) : addrB l = angB (l.dropWhile wordB) := by unfold addrB; rw [h]
theorem b30 : ((3 : Int) = 0) = False := by simp
theorem b00 : ((0 : Int) = 0) = True := by simp
theorem b03 : ((0 : Int) < 3) = True := by simp
theorem b000 : ((0 : Int) < 0) = False := by simp
theorem intF {a b : Nat} (h : b ≤ a) : ((a : Int) < (b : Int)) = False := by simp; omega
theorem intT {a b : Nat} (h : a < b) : ((a : Int) < (b : Int)) = True := by simp; omega
theorem inlF {a b : Nat} (h : b < a) : ((a : Int) ≤ (b : Int)) = False := by simp; omega
theorem inlT {a b : Nat} (h : a ≤ b) : ((a : Int) ≤ (b : Int)) = True := by simp; omega
set_option maxRecDepth 4000 in
set_option maxHeartbeats 1000000 in
theorem addressAt_c (T : Tbl) (hL : LibT T) (l : List Bt) (i : Nat) (hs : Short l) (hi : i ≤ 4096) (hl : l.length ≤ 4096) : PC Tryd.prog T 126 [.d (.slc 4 (btsD l)), .d (.int .i64 i)] (addrV l.length (addrB (l.drop i))) := by
  refine ⟨Tryd.call126, PCall.enterS Tryd.func126 rfl Tryd.ntmps126 rfl fun hb => ?_⟩
  simp only [go_sem, Tryd.results126]
  refine AWp.rs fun K1 hK1 => ?_
  try simp only [go_sem, icast, icast3, icast4, icast5, decide_false, decide_true, Bool.false_or, Bool.true_or, Bool.false_and, Bool.true_and, Bool.not_true, Bool.not_false, Bool.false_eq_true, Bool.true_eq_false, false_imp_iff, and_true, true_and, b30, b00, b03, b000]
  (repeat (with_reducible refine And.intro ?_ ?_; (first | omega | (intro _; omega) | decide | (exact nfB) | (intro _; exact nfB) | (intro hg; refine ⟨hg, ?_⟩; omega) | (simp; done) | (simp; omega) | (intro hg; simp at hg; done) | (intro hg; simp at hg ⊢; first | omega | exact hg | grind))))
  intro b4
  first | intro fb4 | have fb4 := True.intro
  try simp only [freshL] at fb4
  try simp only [go_sem, icast, icast3, icast4, icast5, decide_false, decide_true, Bool.false_or, Bool.true_or, Bool.false_and, Bool.true_and, Bool.not_true, Bool.not_false, Bool.false_eq_true, Bool.true_eq_false, false_imp_iff, and_true, true_and, b30, b00, b03, b000, fb4]
  (repeat (with_reducible refine And.intro ?_ ?_; (first | omega | (intro _; omega) | decide | (exact nfB) | (intro _; exact nfB) | (intro hg; refine ⟨hg, ?_⟩; omega) | (simp; done) | (simp; omega) | (intro hg; simp at hg; done) | (intro hg; simp at hg ⊢; first | omega | exact hg | grind))))
  refine hK1 _ _ ?_
  try clear hK1 K1
  rcases hp : plainB (l.drop i) with _ | x
  · skip
    refine AWp.rs fun K2 hK2 => ?_
    try simp only [go_sem, icast, icast3, icast4, icast5, decide_false, decide_true, Bool.false_or, Bool.true_or, Bool.false_and, Bool.true_and, Bool.not_true, Bool.not_false, Bool.false_eq_true, Bool.true_eq_false, false_imp_iff, and_true, true_and, b30, b00, b03, b000, fb4]
    (repeat (with_reducible refine And.intro ?_ ?_; (first | omega | (intro _; omega) | decide | (exact nfB) | (intro _; exact nfB) | (intro hg; refine ⟨hg, ?_⟩; omega) | (simp; done) | (simp; omega) | (intro hg; simp at hg; done) | (intro hg; simp at hg ⊢; first | omega | exact hg | grind))))
    refine DW.pcr rfl rfl rfl rfl (plainAt_none T hL l i hs hi hl hp) rfl rfl ?_
    try simp only [go_sem, icast, icast3, icast4, icast5, decide_false, decide_true, Bool.false_or, Bool.true_or, Bool.false_and, Bool.true_and, Bool.not_true, Bool.not_false, Bool.false_eq_true, Bool.true_eq_false, false_imp_iff, and_true, true_and, b30, b00, b03, b000, fb4]
    (repeat (with_reducible refine And.intro ?_ ?_; (first | omega | (intro _; omega) | decide | (exact nfB) | (intro _; exact nfB) | (intro hg; refine ⟨hg, ?_⟩; omega) | (simp; done) | (simp; omega) | (intro hg; simp at hg; done) | (intro hg; simp at hg ⊢; first | omega | exact hg | grind))))
    intro b6
    first | intro fb6 | have fb6 := True.intro
    try simp only [freshL] at fb6
    try simp only [go_sem, icast, icast3, icast4, icast5, decide_false, decide_true, Bool.false_or, Bool.true_or, Bool.false_and, Bool.true_and, Bool.not_true, Bool.not_false, Bool.false_eq_true, Bool.true_eq_false, false_imp_iff, and_true, true_and, b30, b00, b03, b000, fb4, fb6]
    (repeat (with_reducible refine And.intro ?_ ?_; (first | omega | (intro _; omega) | decide | (exact nfB) | (intro _; exact nfB) | (intro hg; refine ⟨hg, ?_⟩; omega) | (simp; done) | (simp; omega) | (intro hg; simp at hg; done) | (intro hg; simp at hg ⊢; first | omega | exact hg | grind))))
    refine hK2 _ _ ?_
    try clear hK2 K2
    refine AWp.mask [true, true, true, false, true, true] rfl ?_
    simp only [go_sem]
    refine AWp.seq fun K3 hK3 => ?_
    refine AWp.rs fun K4 hK4 => ?_
    try simp only [go_sem, icast, icast3, icast4, icast5, decide_false, decide_true, Bool.false_or, Bool.true_or, Bool.false_and, Bool.true_and, Bool.not_true, Bool.not_false, Bool.false_eq_true, Bool.true_eq_false, false_imp_iff, and_true, true_and, b30, b00, b03, b000, fb4, fb6]
    (repeat (with_reducible refine And.intro ?_ ?_; (first | omega | (intro _; omega) | decide | (exact nfB) | (intro _; exact nfB) | (intro hg; refine ⟨hg, ?_⟩; omega) | (simp; done) | (simp; omega) | (intro hg; simp at hg; done) | (intro hg; simp at hg ⊢; first | omega | exact hg | grind))))
    refine hK4 _ _ ?_
    try clear hK4 K4
    refine AWp.cond _ rfl (fun hc0 => ?_) (fun hc0 => ?_)
    · skip
      exact absurd hc0 (by simp)
    · skip
      try simp only [decide_eq_true_eq, decide_eq_false_iff_not, Bool.not_eq_true', Bool.not_eq_false', Bool.and_eq_true, Bool.or_eq_true, Bool.and_eq_false_iff, Bool.or_eq_false_iff, Int.not_lt, Int.not_le, beq_iff_eq, beq_eq_false_iff_ne, ne_eq, Bool.not_eq_true, Bool.not_eq_false] at hc0
      refine AWp.skip ?_
      refine thenQ_n ?_
      refine hK3 _ _ ?_
      try clear hK3 K3
      refine AWp.seq fun K5 hK5 => ?_
      refine AWp.block ?_
      refine AWp.mask [true, true, true, true] rfl ?_
      simp only [go_sem]
      refine AWp.loopS [true, false, true, true] [false, true] (fun n lc hc => ∃ (k : Nat), n = l.length - k ∧ EqS lc [(1, .d (.int .i64 k))] ∧ EqS hc (⟨[(b6, ⟨2, 1, [[.d (.str []), .d (.str [])]]⟩), (b4, ⟨2, 1, [[.d (.str []), .d (.str [])]]⟩)], []⟩) ∧ (i ≤ k) ∧ (k ≤ 4096) ∧ ((l.drop k).dropWhile wordB = (l.drop i).dropWhile wordB)) rfl ?_ ?_
      · refine ⟨_, i, rfl, ?_, ?_, ?_, ?_, ?_⟩
        · (try simp only [go_sem, icast, icast3, icast4, icast5, decide_false, decide_true, Bool.false_or, Bool.true_or, Bool.false_and, Bool.true_and, Bool.not_true, Bool.not_false, Bool.false_eq_true, Bool.true_eq_false, false_imp_iff, and_true, true_and, b30, b00, b03, b000, fb4, fb6]) <;> first | exact ⟨rfl⟩ | (constructor; simp; done)
        · (try simp only [go_sem, icast, icast3, icast4, icast5, decide_false, decide_true, Bool.false_or, Bool.true_or, Bool.false_and, Bool.true_and, Bool.not_true, Bool.not_false, Bool.false_eq_true, Bool.true_eq_false, false_imp_iff, and_true, true_and, b30, b00, b03, b000, fb4, fb6]) <;> first | exact ⟨rfl⟩ | (constructor; simp; done)
        all_goals (first | omega | rfl)
      · rintro _ _ _ ⟨k, rfl, ⟨rfl⟩, ⟨rfl⟩, h1, h2, h3⟩
        simp only [go_sem]
        refine AWp.seq fun K6 hK6 => ?_
        rcases Nat.lt_or_ge k l.length with hlt | hlt
        · skip
          refine AWp.rs fun K7 hK7 => ?_
          try simp only [go_sem, icast, icast3, icast4, icast5, decide_false, decide_true, Bool.false_or, Bool.true_or, Bool.false_and, Bool.true_and, Bool.not_true, Bool.not_false, Bool.false_eq_true, Bool.true_eq_false, false_imp_iff, and_true, true_and, b30, b00, b03, b000, fb4, fb6, btsD_get l k _ hlt, btD, intT hlt, inlF hlt]
          (repeat (with_reducible refine And.intro ?_ ?_; (first | omega | (intro _; omega) | decide | (exact nfB) | (intro _; exact nfB) | (intro hg; refine ⟨hg, ?_⟩; omega) | (simp; done) | (simp; omega) | (intro hg; simp at hg; done) | (intro hg; simp at hg ⊢; first | omega | exact hg | grind))))
          refine hK7 _ _ ?_
          try clear hK7 K7
          refine AWp.mask [true, true, true, true, false, false, false, false, false, false, false, false, false, false, false, false, false, false, false, false, false, true] rfl ?_
          simp only [go_sem]
          refine AWp.cond _ rfl (fun hc1 => ?_) (fun hc1 => ?_)
          · skip
            try simp only [decide_eq_true_eq, decide_eq_false_iff_not, Bool.not_eq_true', Bool.not_eq_false', Bool.and_eq_true, Bool.or_eq_true, Bool.and_eq_false_iff, Bool.or_eq_false_iff, Int.not_lt, Int.not_le, beq_iff_eq, beq_eq_false_iff_ne, ne_eq, Bool.not_eq_true, Bool.not_eq_false] at hc1
            refine AWp.skip ?_
            refine thenQ_n ?_
            refine hK6 _ _ ?_
            try clear hK6 K6
            refine AWp.block ?_
            refine AWp.rk fun K8 hK8 => ?_
            try simp only [go_sem, icast, icast3, icast4, icast5, decide_false, decide_true, Bool.false_or, Bool.true_or, Bool.false_and, Bool.true_and, Bool.not_true, Bool.not_false, Bool.false_eq_true, Bool.true_eq_false, false_imp_iff, and_true, true_and, b30, b00, b03, b000, fb4, fb6, btsD_get l k _ hlt, btD, intT hlt, inlF hlt]
            (repeat (with_reducible refine And.intro ?_ ?_; (first | omega | (intro _; omega) | decide | (exact nfB) | (intro _; exact nfB) | (intro hg; refine ⟨hg, ?_⟩; omega) | (simp; done) | (simp; omega) | (intro hg; simp at hg; done) | (intro hg; simp at hg ⊢; first | omega | exact hg | grind))))
            refine hK8 _ _ ?_
            try clear hK8 K8
            refine blkQ_n (thenQ_n ?_)
            refine EndS.mk [true, false, true, true] [false, true] [] [] [b6, b4] [] rfl ?_ ?_
            · (try simp only [go_sem, icast, icast3, icast4, icast5, decide_false, decide_true, Bool.false_or, Bool.true_or, Bool.false_and, Bool.true_and, Bool.not_true, Bool.not_false, Bool.false_eq_true, Bool.true_eq_false, false_imp_iff, and_true, true_and, b30, b00, b03, b000, fb4, fb6, btsD_get l k _ hlt, btD, intT hlt, inlF hlt]) <;> try rfl
            refine .e ⟨_, ?_, k + 1, rfl, ?_, ?_, ?_, ?_, ?_⟩
            · first | omega | (simp; omega) | (grind)
            · (try simp only [go_sem, icast, icast3, icast4, icast5, decide_false, decide_true, Bool.false_or, Bool.true_or, Bool.false_and, Bool.true_and, Bool.not_true, Bool.not_false, Bool.false_eq_true, Bool.true_eq_false, false_imp_iff, and_true, true_and, b30, b00, b03, b000, fb4, fb6, btsD_get l k _ hlt, btD, intT hlt, inlF hlt]) <;> first | exact ⟨rfl⟩ | (constructor; simp; done)
            · (try simp only [go_sem, icast, icast3, icast4, icast5, decide_false, decide_true, Bool.false_or, Bool.true_or, Bool.false_and, Bool.true_and, Bool.not_true, Bool.not_false, Bool.false_eq_true, Bool.true_eq_false, false_imp_iff, and_true, true_and, b30, b00, b03, b000, fb4, fb6, btsD_get l k _ hlt, btD, intT hlt, inlF hlt]) <;> first | exact ⟨rfl⟩ | (constructor; simp; done)
            · omega
            · omega
            · rw [← dropw_step hlt (by simpa [wordB] using hc1)]; exact h3
          · skip
            try simp only [decide_eq_true_eq, decide_eq_false_iff_not, Bool.not_eq_true', Bool.not_eq_false', Bool.and_eq_true, Bool.or_eq_true, Bool.and_eq_false_iff, Bool.or_eq_false_iff, Int.not_lt, Int.not_le, beq_iff_eq, beq_eq_false_iff_ne, ne_eq, Bool.not_eq_true, Bool.not_eq_false] at hc1
            have hdw : (l.drop i).dropWhile wordB = l.drop k := by
              rw [← h3]
              exact dropw_end (fun hk => by first | (exfalso; omega) | (unfold wordB; simpa using hc1))
            refine AWp.exit ?_
            refine thenQ_e (thenQ_e (blkQ_e (thenQ_n ?_)))
            refine hK5 _ _ ?_
            try clear hK5 K5
            refine AWp.seq fun K9 hK9 => ?_
            refine AWp.rs fun K10 hK10 => ?_
            try simp only [go_sem, icast, icast3, icast4, icast5, decide_false, decide_true, Bool.false_or, Bool.true_or, Bool.false_and, Bool.true_and, Bool.not_true, Bool.not_false, Bool.false_eq_true, Bool.true_eq_false, false_imp_iff, and_true, true_and, b30, b00, b03, b000, fb4, fb6, btsD_get l k _ hlt, btD, intT hlt, inlF hlt]
            (repeat (with_reducible refine And.intro ?_ ?_; (first | omega | (intro _; omega) | decide | (exact nfB) | (intro _; exact nfB) | (intro hg; refine ⟨hg, ?_⟩; omega) | (simp; done) | (simp; omega) | (intro hg; simp at hg; done) | (intro hg; simp at hg ⊢; first | omega | exact hg | grind))))
            refine hK10 _ _ ?_
            try clear hK10 K10
            refine AWp.mask [true, true, true, true, false, false, false, false, false, false, false, false, false, false, false, false, true] rfl ?_
            simp only [go_sem]
            refine AWp.cond _ rfl (fun hc2 => ?_) (fun hc2 => ?_)
            · skip
              try simp only [decide_eq_true_eq, decide_eq_false_iff_not, Bool.not_eq_true', Bool.not_eq_false', Bool.and_eq_true, Bool.or_eq_true, Bool.and_eq_false_iff, Bool.or_eq_false_iff, Int.not_lt, Int.not_le, beq_iff_eq, beq_eq_false_iff_ne, ne_eq, Bool.not_eq_true, Bool.not_eq_false] at hc2
              refine AWp.rs fun K11 hK11 => ?_
              try simp only [go_sem, icast, icast3, icast4, icast5, decide_false, decide_true, Bool.false_or, Bool.true_or, Bool.false_and, Bool.true_and, Bool.not_true, Bool.not_false, Bool.false_eq_true, Bool.true_eq_false, false_imp_iff, and_true, true_and, b30, b00, b03, b000, fb4, fb6, btsD_get l k _ hlt, btD, intT hlt, inlF hlt]
              (repeat (with_reducible refine And.intro ?_ ?_; (first | omega | (intro _; omega) | decide | (exact nfB) | (intro _; exact nfB) | (intro hg; refine ⟨hg, ?_⟩; omega) | (simp; done) | (simp; omega) | (intro hg; simp at hg; done) | (intro hg; simp at hg ⊢; first | omega | exact hg | grind))))
              refine hK11 _ _ ?_
              try clear hK11 K11
              refine AWp.mask [false, false, true, true] rfl ?_
              simp only [go_sem]
              refine AWp.ret ?_
              try simp only [go_sem, icast, icast3, icast4, icast5, decide_false, decide_true, Bool.false_or, Bool.true_or, Bool.false_and, Bool.true_and, Bool.not_true, Bool.not_false, Bool.false_eq_true, Bool.true_eq_false, false_imp_iff, and_true, true_and, b30, b00, b03, b000, fb4, fb6, btsD_get l k _ hlt, btD, intT hlt, inlF hlt]
              rw [addrB_none hp, hdw]; first | rw [ang_nil hlt] | rw [ang_ne hlt (by simpa using hc2)]
              simp [addrV, LeA, LeL, LeD]
            · skip
              try simp only [decide_eq_true_eq, decide_eq_false_iff_not, Bool.not_eq_true', Bool.not_eq_false', Bool.and_eq_true, Bool.or_eq_true, Bool.and_eq_false_iff, Bool.or_eq_false_iff, Int.not_lt, Int.not_le, beq_iff_eq, beq_eq_false_iff_ne, ne_eq, Bool.not_eq_true, Bool.not_eq_false] at hc2
              refine AWp.skip ?_
              refine thenQ_n ?_
              refine hK9 _ _ ?_
              try clear hK9 K9
              rcases hp2 : plainB (l.drop (k + 1)) with _ | x
              · skip
                refine AWp.rs fun K12 hK12 => ?_
                try simp only [go_sem, icast, icast3, icast4, icast5, decide_false, decide_true, Bool.false_or, Bool.true_or, Bool.false_and, Bool.true_and, Bool.not_true, Bool.not_false, Bool.false_eq_true, Bool.true_eq_false, false_imp_iff, and_true, true_and, b30, b00, b03, b000, fb4, fb6, btsD_get l k _ hlt, btD, intT hlt, inlF hlt]
                (repeat (with_reducible refine And.intro ?_ ?_; (first | omega | (intro _; omega) | decide | (exact nfB) | (intro _; exact nfB) | (intro hg; refine ⟨hg, ?_⟩; omega) | (simp; done) | (simp; omega) | (intro hg; simp at hg; done) | (intro hg; simp at hg ⊢; first | omega | exact hg | grind))))
                refine DW.pcr rfl rfl rfl rfl (plainAt_none T hL l (k + 1) hs (by omega) hl hp2) rfl rfl ?_
                try simp only [go_sem, icast, icast3, icast4, icast5, decide_false, decide_true, Bool.false_or, Bool.true_or, Bool.false_and, Bool.true_and, Bool.not_true, Bool.not_false, Bool.false_eq_true, Bool.true_eq_false, false_imp_iff, and_true, true_and, b30, b00, b03, b000, fb4, fb6, btsD_get l k _ hlt, btD, intT hlt, inlF hlt]
                (repeat (with_reducible refine And.intro ?_ ?_; (first | omega | (intro _; omega) | decide | (exact nfB) | (intro _; exact nfB) | (intro hg; refine ⟨hg, ?_⟩; omega) | (simp; done) | (simp; omega) | (intro hg; simp at hg; done) | (intro hg; simp at hg ⊢; first | omega | exact hg | grind))))
                refine hK12 _ _ ?_
                try clear hK12 K12
                refine AWp.mask [true, true, true, true, true] rfl ?_
                simp only [go_sem]
                refine AWp.seq fun K13 hK13 => ?_
                refine AWp.rs fun K14 hK14 => ?_
                try simp only [go_sem, icast, icast3, icast4, icast5, decide_false, decide_true, Bool.false_or, Bool.true_or, Bool.false_and, Bool.true_and, Bool.not_true, Bool.not_false, Bool.false_eq_true, Bool.true_eq_false, false_imp_iff, and_true, true_and, b30, b00, b03, b000, fb4, fb6, btsD_get l k _ hlt, btD, intT hlt, inlF hlt]
                (repeat (with_reducible refine And.intro ?_ ?_; (first | omega | (intro _; omega) | decide | (exact nfB) | (intro _; exact nfB) | (intro hg; refine ⟨hg, ?_⟩; omega) | (simp; done) | (simp; omega) | (intro hg; simp at hg; done) | (intro hg; simp at hg ⊢; first | omega | exact hg | grind))))
                refine hK14 _ _ ?_
                try clear hK14 K14
                refine AWp.mask [false, true, true, true, false, false, false, false, false, false, false, false, false, false, false, false, false, false, false, false, false, false, false, false, false, false, false, false, false, false, false, false, false, false, false, false, false, false, true] rfl ?_
                simp only [go_sem]
                refine AWp.cond _ rfl (fun hc3 => ?_) (fun hc3 => ?_)
                · skip
                  try simp only [decide_eq_true_eq, decide_eq_false_iff_not, Bool.not_eq_true', Bool.not_eq_false', Bool.and_eq_true, Bool.or_eq_true, Bool.and_eq_false_iff, Bool.or_eq_false_iff, Int.not_lt, Int.not_le, beq_iff_eq, beq_eq_false_iff_ne, ne_eq, Bool.not_eq_true, Bool.not_eq_false] at hc3
                  refine AWp.rs fun K15 hK15 => ?_
                  try simp only [go_sem, icast, icast3, icast4, icast5, decide_false, decide_true, Bool.false_or, Bool.true_or, Bool.false_and, Bool.true_and, Bool.not_true, Bool.not_false, Bool.false_eq_true, Bool.true_eq_false, false_imp_iff, and_true, true_and, b30, b00, b03, b000, fb4, fb6, btsD_get l k _ hlt, btD, intT hlt, inlF hlt]
                  (repeat (with_reducible refine And.intro ?_ ?_; (first | omega | (intro _; omega) | decide | (exact nfB) | (intro _; exact nfB) | (intro hg; refine ⟨hg, ?_⟩; omega) | (simp; done) | (simp; omega) | (intro hg; simp at hg; done) | (intro hg; simp at hg ⊢; first | omega | exact hg | grind))))
                  refine hK15 _ _ ?_
                  try clear hK15 K15
                  refine AWp.mask [false, true, true] rfl ?_
                  simp only [go_sem]
                  refine AWp.ret ?_
                  try simp only [go_sem, icast, icast3, icast4, icast5, decide_false, decide_true, Bool.false_or, Bool.true_or, Bool.false_and, Bool.true_and, Bool.not_true, Bool.not_false, Bool.false_eq_true, Bool.true_eq_false, false_imp_iff, and_true, true_and, b30, b00, b03, b000, fb4, fb6, btsD_get l k _ hlt, btD, intT hlt, inlF hlt]
                  have h60 : l[k].text = [60] := by simpa using hc2
                  rw [addrB_none hp, hdw]
                  first
                  | rw [ang_np hlt hp2]
                  | rw [ang_p hlt h60 hp2 (by omega), dif_neg (by omega)]
                  | rw [ang_p hlt h60 hp2 (by omega), dif_pos hlt4, if_neg (fun h => by simp [h] at hc3)]
                  simp [addrV, LeA, LeL, LeD]
                · skip
                  exact absurd hc3 (by simp)
              · skip
                obtain ⟨a, t⟩ := x
                obtain ⟨rfl, hle⟩ := plain_t hp2
                refine AWp.rs fun K12 hK12 => ?_
                try simp only [go_sem, icast, icast3, icast4, icast5, decide_false, decide_true, Bool.false_or, Bool.true_or, Bool.false_and, Bool.true_and, Bool.not_true, Bool.not_false, Bool.false_eq_true, Bool.true_eq_false, false_imp_iff, and_true, true_and, b30, b00, b03, b000, fb4, fb6, btsD_get l k _ hlt, btD, intT hlt, inlF hlt]
                (repeat (with_reducible refine And.intro ?_ ?_; (first | omega | (intro _; omega) | decide | (exact nfB) | (intro _; exact nfB) | (intro hg; refine ⟨hg, ?_⟩; omega) | (simp; done) | (simp; omega) | (intro hg; simp at hg; done) | (intro hg; simp at hg ⊢; first | omega | exact hg | grind))))
                refine DW.pcr rfl rfl rfl rfl (plainAt_some T hL l (k + 1) hs (by omega) hl a _ hp2) rfl rfl ?_
                try simp only [go_sem, icast, icast3, icast4, icast5, decide_false, decide_true, Bool.false_or, Bool.true_or, Bool.false_and, Bool.true_and, Bool.not_true, Bool.not_false, Bool.false_eq_true, Bool.true_eq_false, false_imp_iff, and_true, true_and, b30, b00, b03, b000, fb4, fb6, btsD_get l k _ hlt, btD, intT hlt, inlF hlt]
                (repeat (with_reducible refine And.intro ?_ ?_; (first | omega | (intro _; omega) | decide | (exact nfB) | (intro _; exact nfB) | (intro hg; refine ⟨hg, ?_⟩; omega) | (simp; done) | (simp; omega) | (intro hg; simp at hg; done) | (intro hg; simp at hg ⊢; first | omega | exact hg | grind))))
                refine hK12 _ _ ?_
                try clear hK12 K12
                refine AWp.mask [true, true, true, true, true] rfl ?_
                simp only [go_sem]
                refine AWp.seq fun K16 hK16 => ?_
                rcases Nat.lt_or_ge (k + 4) l.length with hlt4 | hlt4
                · skip
                  refine AWp.rs fun K17 hK17 => ?_
                  try simp only [go_sem, icast, icast3, icast4, icast5, decide_false, decide_true, Bool.false_or, Bool.true_or, Bool.false_and, Bool.true_and, Bool.not_true, Bool.not_false, Bool.false_eq_true, Bool.true_eq_false, false_imp_iff, and_true, true_and, b30, b00, b03, b000, fb4, fb6, btsD_get l k _ hlt, btD, intT hlt, inlF hlt, btsD_get l (k + 1) _ (by omega), btsD_get l (k + 4) _ hlt4, inlF hlt4]
                  (repeat (with_reducible refine And.intro ?_ ?_; (first | omega | (intro _; omega) | decide | (exact nfB) | (intro _; exact nfB) | (intro hg; refine ⟨hg, ?_⟩; omega) | (simp; done) | (simp; omega) | (intro hg; simp at hg; done) | (intro hg; simp at hg ⊢; first | omega | exact hg | grind))))
                  refine hK17 _ _ ?_
                  try clear hK17 K17
                  refine AWp.mask [false, true, true, true, false, false, false, false, false, false, false, false, false, false, false, false, false, false, false, false, false, false, false, false, false, false, false, false, false, false, false, false, false, false, false, false, false, false, true] rfl ?_
                  simp only [go_sem]
                  refine AWp.cond _ rfl (fun hc3 => ?_) (fun hc3 => ?_)
                  · skip
                    try simp only [decide_eq_true_eq, decide_eq_false_iff_not, Bool.not_eq_true', Bool.not_eq_false', Bool.and_eq_true, Bool.or_eq_true, Bool.and_eq_false_iff, Bool.or_eq_false_iff, Int.not_lt, Int.not_le, beq_iff_eq, beq_eq_false_iff_ne, ne_eq, Bool.not_eq_true, Bool.not_eq_false] at hc3
                    refine AWp.rs fun K18 hK18 => ?_
                    try simp only [go_sem, icast, icast3, icast4, icast5, decide_false, decide_true, Bool.false_or, Bool.true_or, Bool.false_and, Bool.true_and, Bool.not_true, Bool.not_false, Bool.false_eq_true, Bool.true_eq_false, false_imp_iff, and_true, true_and, b30, b00, b03, b000, fb4, fb6, btsD_get l k _ hlt, btD, intT hlt, inlF hlt, btsD_get l (k + 1) _ (by omega), btsD_get l (k + 4) _ hlt4, inlF hlt4]
                    (repeat (with_reducible refine And.intro ?_ ?_; (first | omega | (intro _; omega) | decide | (exact nfB) | (intro _; exact nfB) | (intro hg; refine ⟨hg, ?_⟩; omega) | (simp; done) | (simp; omega) | (intro hg; simp at hg; done) | (intro hg; simp at hg ⊢; first | omega | exact hg | grind))))
                    refine hK18 _ _ ?_
                    try clear hK18 K18
                    refine AWp.mask [false, true, true] rfl ?_
                    simp only [go_sem]
                    refine AWp.ret ?_
                    try simp only [go_sem, icast, icast3, icast4, icast5, decide_false, decide_true, Bool.false_or, Bool.true_or, Bool.false_and, Bool.true_and, Bool.not_true, Bool.not_false, Bool.false_eq_true, Bool.true_eq_false, false_imp_iff, and_true, true_and, b30, b00, b03, b000, fb4, fb6, btsD_get l k _ hlt, btD, intT hlt, inlF hlt, btsD_get l (k + 1) _ (by omega), btsD_get l (k + 4) _ hlt4, inlF hlt4]
                    have h60 : l[k].text = [60] := by simpa using hc2
                    rw [addrB_none hp, hdw]
                    first
                    | rw [ang_np hlt hp2]
                    | rw [ang_p hlt h60 hp2 (by omega), dif_neg (by omega)]
                    | rw [ang_p hlt h60 hp2 (by omega), dif_pos hlt4, if_neg (fun h => by simp [h] at hc3)]
                    simp [addrV, LeA, LeL, LeD]
                  · skip
                    try simp only [decide_eq_true_eq, decide_eq_false_iff_not, Bool.not_eq_true', Bool.not_eq_false', Bool.and_eq_true, Bool.or_eq_true, Bool.and_eq_false_iff, Bool.or_eq_false_iff, Int.not_lt, Int.not_le, beq_iff_eq, beq_eq_false_iff_ne, ne_eq, Bool.not_eq_true, Bool.not_eq_false] at hc3
                    refine AWp.skip ?_
                    refine thenQ_n ?_
                    refine hK16 _ _ ?_
                    try clear hK16 K16
                    refine AWp.rs fun K19 hK19 => ?_
                    try simp only [go_sem, icast, icast3, icast4, icast5, decide_false, decide_true, Bool.false_or, Bool.true_or, Bool.false_and, Bool.true_and, Bool.not_true, Bool.not_false, Bool.false_eq_true, Bool.true_eq_false, false_imp_iff, and_true, true_and, b30, b00, b03, b000, fb4, fb6, btsD_get l k _ hlt, btD, intT hlt, inlF hlt, btsD_get l (k + 1) _ (by omega), btsD_get l (k + 4) _ hlt4, inlF hlt4]
                    (repeat (with_reducible refine And.intro ?_ ?_; (first | omega | (intro _; omega) | decide | (exact nfB) | (intro _; exact nfB) | (intro hg; refine ⟨hg, ?_⟩; omega) | (simp; done) | (simp; omega) | (intro hg; simp at hg; done) | (intro hg; simp at hg ⊢; first | omega | exact hg | grind))))
                    refine hK19 _ _ ?_
                    try clear hK19 K19
                    refine AWp.mask [false, true, true] rfl ?_
                    simp only [go_sem]
                    refine AWp.ret ?_
                    try simp only [go_sem, icast, icast3, icast4, icast5, decide_false, decide_true, Bool.false_or, Bool.true_or, Bool.false_and, Bool.true_and, Bool.not_true, Bool.not_false, Bool.false_eq_true, Bool.true_eq_false, false_imp_iff, and_true, true_and, b30, b00, b03, b000, fb4, fb6, btsD_get l k _ hlt, btD, intT hlt, inlF hlt, btsD_get l (k + 1) _ (by omega), btsD_get l (k + 4) _ hlt4, inlF hlt4]
                    have h60 : l[k].text = [60] := by simpa using hc2
                    rw [addrB_none hp, hdw, ang_p hlt h60 hp2 (by omega), dif_pos hlt4, if_pos ⟨hc3.1.1, hc3.1.2, hc3.2⟩]
                    simp [addrV, LeA, LeL, LeD]
                    omega
                · skip
                  refine AWp.rs fun K17 hK17 => ?_
                  try simp only [go_sem, icast, icast3, icast4, icast5, decide_false, decide_true, Bool.false_or, Bool.true_or, Bool.false_and, Bool.true_and, Bool.not_true, Bool.not_false, Bool.false_eq_true, Bool.true_eq_false, false_imp_iff, and_true, true_and, b30, b00, b03, b000, fb4, fb6, btsD_get l k _ hlt, btD, intT hlt, inlF hlt, btsD_get l (k + 1) _ (by omega), inlT hlt4]
                  (repeat (with_reducible refine And.intro ?_ ?_; (first | omega | (intro _; omega) | decide | (exact nfB) | (intro _; exact nfB) | (intro hg; refine ⟨hg, ?_⟩; omega) | (simp; done) | (simp; omega) | (intro hg; simp at hg; done) | (intro hg; simp at hg ⊢; first | omega | exact hg | grind))))
                  refine hK17 _ _ ?_
                  try clear hK17 K17
                  refine AWp.mask [false, true, true, true, false, false, false, false, false, false, false, false, false, false, false, false, false, false, false, false, false, false, false, false, false, false, false, false, false, false, false, false, false, false, false, false, false, false, true] rfl ?_
                  simp only [go_sem]
                  refine AWp.cond _ rfl (fun hc3 => ?_) (fun hc3 => ?_)
                  · skip
                    try simp only [decide_eq_true_eq, decide_eq_false_iff_not, Bool.not_eq_true', Bool.not_eq_false', Bool.and_eq_true, Bool.or_eq_true, Bool.and_eq_false_iff, Bool.or_eq_false_iff, Int.not_lt, Int.not_le, beq_iff_eq, beq_eq_false_iff_ne, ne_eq, Bool.not_eq_true, Bool.not_eq_false] at hc3
                    refine AWp.rs fun K20 hK20 => ?_
                    try simp only [go_sem, icast, icast3, icast4, icast5, decide_false, decide_true, Bool.false_or, Bool.true_or, Bool.false_and, Bool.true_and, Bool.not_true, Bool.not_false, Bool.false_eq_true, Bool.true_eq_false, false_imp_iff, and_true, true_and, b30, b00, b03, b000, fb4, fb6, btsD_get l k _ hlt, btD, intT hlt, inlF hlt, btsD_get l (k + 1) _ (by omega), inlT hlt4]
                    (repeat (with_reducible refine And.intro ?_ ?_; (first | omega | (intro _; omega) | decide | (exact nfB) | (intro _; exact nfB) | (intro hg; refine ⟨hg, ?_⟩; omega) | (simp; done) | (simp; omega) | (intro hg; simp at hg; done) | (intro hg; simp at hg ⊢; first | omega | exact hg | grind))))
                    refine hK20 _ _ ?_
                    try clear hK20 K20
                    refine AWp.mask [false, true, true] rfl ?_
                    simp only [go_sem]
                    refine AWp.ret ?_
                    try simp only [go_sem, icast, icast3, icast4, icast5, decide_false, decide_true, Bool.false_or, Bool.true_or, Bool.false_and, Bool.true_and, Bool.not_true, Bool.not_false, Bool.false_eq_true, Bool.true_eq_false, false_imp_iff, and_true, true_and, b30, b00, b03, b000, fb4, fb6, btsD_get l k _ hlt, btD, intT hlt, inlF hlt, btsD_get l (k + 1) _ (by omega), inlT hlt4]
                    have h60 : l[k].text = [60] := by simpa using hc2
                    rw [addrB_none hp, hdw]
                    first
                    | rw [ang_np hlt hp2]
                    | rw [ang_p hlt h60 hp2 (by omega), dif_neg (by omega)]
                    | rw [ang_p hlt h60 hp2 (by omega), dif_pos hlt4, if_neg (fun h => by simp [h] at hc3)]
                    simp [addrV, LeA, LeL, LeD]
                  · skip
                    exact absurd hc3 (by simp)
        · skip
          refine AWp.rs fun K7 hK7 => ?_
          try simp only [go_sem, icast, icast3, icast4, icast5, decide_false, decide_true, Bool.false_or, Bool.true_or, Bool.false_and, Bool.true_and, Bool.not_true, Bool.not_false, Bool.false_eq_true, Bool.true_eq_false, false_imp_iff, and_true, true_and, b30, b00, b03, b000, fb4, fb6, intF hlt, inlT hlt, btsD_none l k hlt, List.drop_nil, List.take_nil, List.map_nil, List.headD_nil]
          (repeat (with_reducible refine And.intro ?_ ?_; (first | omega | (intro _; omega) | decide | (exact nfB) | (intro _; exact nfB) | (intro hg; refine ⟨hg, ?_⟩; omega) | (simp; done) | (simp; omega) | (intro hg; simp at hg; done) | (intro hg; simp at hg ⊢; first | omega | exact hg | grind))))
          refine hK7 _ _ ?_
          try clear hK7 K7
          refine AWp.mask [true, true, true, true, false, false, false, false, false, false, false, false, false, false, false, false, false, false, false, false, false, true] rfl ?_
          simp only [go_sem]
          refine AWp.cond _ rfl (fun hc1 => ?_) (fun hc1 => ?_)
          · skip
            exact absurd hc1 (by simp)
          · skip
            try simp only [decide_eq_true_eq, decide_eq_false_iff_not, Bool.not_eq_true', Bool.not_eq_false', Bool.and_eq_true, Bool.or_eq_true, Bool.and_eq_false_iff, Bool.or_eq_false_iff, Int.not_lt, Int.not_le, beq_iff_eq, beq_eq_false_iff_ne, ne_eq, Bool.not_eq_true, Bool.not_eq_false] at hc1
            have hdw : (l.drop i).dropWhile wordB = l.drop k := by
              rw [← h3]
              exact dropw_end (fun hk => by first | (exfalso; omega) | (unfold wordB; simpa using hc1))
            refine AWp.exit ?_
            refine thenQ_e (thenQ_e (blkQ_e (thenQ_n ?_)))
            refine hK5 _ _ ?_
            try clear hK5 K5
            refine AWp.seq fun K21 hK21 => ?_
            refine AWp.rs fun K22 hK22 => ?_
            try simp only [go_sem, icast, icast3, icast4, icast5, decide_false, decide_true, Bool.false_or, Bool.true_or, Bool.false_and, Bool.true_and, Bool.not_true, Bool.not_false, Bool.false_eq_true, Bool.true_eq_false, false_imp_iff, and_true, true_and, b30, b00, b03, b000, fb4, fb6, intF hlt, inlT hlt, btsD_none l k hlt, List.drop_nil, List.take_nil, List.map_nil, List.headD_nil]
            (repeat (with_reducible refine And.intro ?_ ?_; (first | omega | (intro _; omega) | decide | (exact nfB) | (intro _; exact nfB) | (intro hg; refine ⟨hg, ?_⟩; omega) | (simp; done) | (simp; omega) | (intro hg; simp at hg; done) | (intro hg; simp at hg ⊢; first | omega | exact hg | grind))))
            refine hK22 _ _ ?_
            try clear hK22 K22
            refine AWp.mask [true, true, true, true, false, false, false, false, false, false, false, false, false, false, false, false, true] rfl ?_
            simp only [go_sem]
            refine AWp.cond _ rfl (fun hc2 => ?_) (fun hc2 => ?_)
            · skip
              try simp only [decide_eq_true_eq, decide_eq_false_iff_not, Bool.not_eq_true', Bool.not_eq_false', Bool.and_eq_true, Bool.or_eq_true, Bool.and_eq_false_iff, Bool.or_eq_false_iff, Int.not_lt, Int.not_le, beq_iff_eq, beq_eq_false_iff_ne, ne_eq, Bool.not_eq_true, Bool.not_eq_false] at hc2
              refine AWp.rs fun K23 hK23 => ?_
              try simp only [go_sem, icast, icast3, icast4, icast5, decide_false, decide_true, Bool.false_or, Bool.true_or, Bool.false_and, Bool.true_and, Bool.not_true, Bool.not_false, Bool.false_eq_true, Bool.true_eq_false, false_imp_iff, and_true, true_and, b30, b00, b03, b000, fb4, fb6, intF hlt, inlT hlt, btsD_none l k hlt, List.drop_nil, List.take_nil, List.map_nil, List.headD_nil]
              (repeat (with_reducible refine And.intro ?_ ?_; (first | omega | (intro _; omega) | decide | (exact nfB) | (intro _; exact nfB) | (intro hg; refine ⟨hg, ?_⟩; omega) | (simp; done) | (simp; omega) | (intro hg; simp at hg; done) | (intro hg; simp at hg ⊢; first | omega | exact hg | grind))))
              refine hK23 _ _ ?_
              try clear hK23 K23
              refine AWp.mask [false, false, true, true] rfl ?_
              simp only [go_sem]
              refine AWp.ret ?_
              try simp only [go_sem, icast, icast3, icast4, icast5, decide_false, decide_true, Bool.false_or, Bool.true_or, Bool.false_and, Bool.true_and, Bool.not_true, Bool.not_false, Bool.false_eq_true, Bool.true_eq_false, false_imp_iff, and_true, true_and, b30, b00, b03, b000, fb4, fb6, intF hlt, inlT hlt, btsD_none l k hlt, List.drop_nil, List.take_nil, List.map_nil, List.headD_nil]
              rw [addrB_none hp, hdw]; first | rw [ang_nil hlt] | rw [ang_ne hlt (by simpa using hc2)]
              simp [addrV, LeA, LeL, LeD]
            · skip
              exact absurd hc2 (by simp)
  · skip
    obtain ⟨a, t⟩ := x
    obtain ⟨rfl, hle⟩ := plain_t hp
    refine AWp.rs fun K2 hK2 => ?_
    try simp only [go_sem, icast, icast3, icast4, icast5, decide_false, decide_true, Bool.false_or, Bool.true_or, Bool.false_and, Bool.true_and, Bool.not_true, Bool.not_false, Bool.false_eq_true, Bool.true_eq_false, false_imp_iff, and_true, true_and, b30, b00, b03, b000, fb4]
    (repeat (with_reducible refine And.intro ?_ ?_; (first | omega | (intro _; omega) | decide | (exact nfB) | (intro _; exact nfB) | (intro hg; refine ⟨hg, ?_⟩; omega) | (simp; done) | (simp; omega) | (intro hg; simp at hg; done) | (intro hg; simp at hg ⊢; first | omega | exact hg | grind))))
    refine DW.pcr rfl rfl rfl rfl (plainAt_some T hL l i hs hi hl a _ hp) rfl rfl ?_
    try simp only [go_sem, icast, icast3, icast4, icast5, decide_false, decide_true, Bool.false_or, Bool.true_or, Bool.false_and, Bool.true_and, Bool.not_true, Bool.not_false, Bool.false_eq_true, Bool.true_eq_false, false_imp_iff, and_true, true_and, b30, b00, b03, b000, fb4]
    (repeat (with_reducible refine And.intro ?_ ?_; (first | omega | (intro _; omega) | decide | (exact nfB) | (intro _; exact nfB) | (intro hg; refine ⟨hg, ?_⟩; omega) | (simp; done) | (simp; omega) | (intro hg; simp at hg; done) | (intro hg; simp at hg ⊢; first | omega | exact hg | grind))))
    intro b6
    first | intro fb6 | have fb6 := True.intro
    try simp only [freshL] at fb6
    try simp only [go_sem, icast, icast3, icast4, icast5, decide_false, decide_true, Bool.false_or, Bool.true_or, Bool.false_and, Bool.true_and, Bool.not_true, Bool.not_false, Bool.false_eq_true, Bool.true_eq_false, false_imp_iff, and_true, true_and, b30, b00, b03, b000, fb4, fb6]
    (repeat (with_reducible refine And.intro ?_ ?_; (first | omega | (intro _; omega) | decide | (exact nfB) | (intro _; exact nfB) | (intro hg; refine ⟨hg, ?_⟩; omega) | (simp; done) | (simp; omega) | (intro hg; simp at hg; done) | (intro hg; simp at hg ⊢; first | omega | exact hg | grind))))
    refine hK2 _ _ ?_
    try clear hK2 K2
    refine AWp.mask [true, true, true, false, true, true] rfl ?_
    simp only [go_sem]
    refine AWp.seq fun K24 hK24 => ?_
    refine AWp.rs fun K25 hK25 => ?_
    try simp only [go_sem, icast, icast3, icast4, icast5, decide_false, decide_true, Bool.false_or, Bool.true_or, Bool.false_and, Bool.true_and, Bool.not_true, Bool.not_false, Bool.false_eq_true, Bool.true_eq_false, false_imp_iff, and_true, true_and, b30, b00, b03, b000, fb4, fb6]
    (repeat (with_reducible refine And.intro ?_ ?_; (first | omega | (intro _; omega) | decide | (exact nfB) | (intro _; exact nfB) | (intro hg; refine ⟨hg, ?_⟩; omega) | (simp; done) | (simp; omega) | (intro hg; simp at hg; done) | (intro hg; simp at hg ⊢; first | omega | exact hg | grind))))
    refine hK25 _ _ ?_
    try clear hK25 K25
    refine AWp.cond _ rfl (fun hc0 => ?_) (fun hc0 => ?_)
    · skip
      try simp only [decide_eq_true_eq, decide_eq_false_iff_not, Bool.not_eq_true', Bool.not_eq_false', Bool.and_eq_true, Bool.or_eq_true, Bool.and_eq_false_iff, Bool.or_eq_false_iff, Int.not_lt, Int.not_le, beq_iff_eq, beq_eq_false_iff_ne, ne_eq, Bool.not_eq_true, Bool.not_eq_false] at hc0
      refine AWp.rs fun K26 hK26 => ?_
      try simp only [go_sem, icast, icast3, icast4, icast5, decide_false, decide_true, Bool.false_or, Bool.true_or, Bool.false_and, Bool.true_and, Bool.not_true, Bool.not_false, Bool.false_eq_true, Bool.true_eq_false, false_imp_iff, and_true, true_and, b30, b00, b03, b000, fb4, fb6]
      (repeat (with_reducible refine And.intro ?_ ?_; (first | omega | (intro _; omega) | decide | (exact nfB) | (intro _; exact nfB) | (intro hg; refine ⟨hg, ?_⟩; omega) | (simp; done) | (simp; omega) | (intro hg; simp at hg; done) | (intro hg; simp at hg ⊢; first | omega | exact hg | grind))))
      refine hK26 _ _ ?_
      try clear hK26 K26
      refine AWp.mask [false, false, true, true] rfl ?_
      simp only [go_sem]
      refine AWp.ret ?_
      try simp only [go_sem, icast, icast3, icast4, icast5, decide_false, decide_true, Bool.false_or, Bool.true_or, Bool.false_and, Bool.true_and, Bool.not_true, Bool.not_false, Bool.false_eq_true, Bool.true_eq_false, false_imp_iff, and_true, true_and, b30, b00, b03, b000, fb4, fb6]
      rw [addrB_some hp]; simp [addrV, LeA, LeL, LeD]; omega
    · skip
      exact absurd hc0 (by simp)
end Go.Proofs.YthhfbolhlbgbgaaDoor

namespace Go.Proofs.YthhfbolhlbgbgaaDoor
set_option linter.unusedSimpArgs false
set_option linter.unusedVariables false
theorem dropw_drop (l : List Bt) (i : Nat) : ∃ k, i ≤ k ∧ (l.drop i).dropWhile wordB = l.drop k := by
  obtain ⟨t, ht⟩ := List.dropWhile_suffix (l := l.drop i) wordB
  refine ⟨i + t.length, by omega, ?_⟩
  have h2 : List.drop t.length (t ++ List.dropWhile wordB (l.drop i)) = List.dropWhile wordB (l.drop i) := by simp
  rw [ht, List.drop_drop] at h2
  exact h2.symm
theorem ang_t {l : List Bt} {k : Nat} {a : Ad} {t : List Bt} (h : angB (l.drop k) = some (a, t)) : t = l.drop (k + 5) ∧ k + 5 ≤ l.length := by
  rcases Nat.lt_or_ge k l.length with hk | hk
  · by_cases hx : l[k].text = [60]
    · cases hp : plainB (l.drop (k + 1)) with
      | none => rw [ang_np hk hp] at h; cases h
      | some x =>
        obtain ⟨a', t'⟩ := x
        obtain ⟨_, hle⟩ := plain_t hp
        rw [ang_p hk hx hp (by omega)] at h
        split at h
        · split at h
          · injection h with h; injection h with _ h; exact ⟨h.symm, by omega⟩
          · cases h
        · cases h
    · rw [ang_ne hk hx] at h; cases h
  · rw [ang_nil hk] at h; cases h
theorem addr_t {l : List Bt} {i : Nat} {a : Ad} {t : List Bt} (h : addrB (l.drop i) = some (a, t)) : ∃ e, i < e ∧ e ≤ l.length ∧ t = l.drop e := by
  cases hp : plainB (l.drop i) with
  | some x =>
    rw [addrB_some hp] at h
    injection h with h; subst h
    obtain ⟨h1, h2⟩ := plain_t hp
    exact ⟨i + 3, by omega, h2, h1⟩
  | none =>
    rw [addrB_none hp] at h
    obtain ⟨k, hk, e⟩ := dropw_drop l i
    rw [e] at h
    obtain ⟨h1, h2⟩ := ang_t h
    exact ⟨k + 5, by omega, h2, h1⟩
theorem addressAt_none (T : Tbl) (hL : LibT T) (l : List Bt) (i : Nat) (hs : Short l) (hi : i ≤ 4096) (hl : l.length ≤ 4096) (hp : addrB (l.drop i) = none) : PC Tryd.prog T 126 [.d (.slc 4 (btsD l)), .d (.int .i64 i)] (.tup [.agg [.d (.str []), .d (.str [])], .d (.int .i64 (-1))]) := by
  have := addressAt_c T hL l i hs hi hl
  rw [hp] at this; exact this
theorem addressAt_some (T : Tbl) (hL : LibT T) (l : List Bt) (i e : Nat) (hs : Short l) (hi : i ≤ 4096) (hl : l.length ≤ 4096) (a : Ad) (he : e ≤ l.length) (hp : addrB (l.drop i) = some (a, l.drop e)) : PC Tryd.prog T 126 [.d (.slc 4 (btsD l)), .d (.int .i64 i)] (.tup [.agg [.d (.str a.1), .d (.str a.2)], .d (.int .i64 e)]) := by
  have := addressAt_c T hL l i hs hi hl
  rw [hp] at this
  simp only [addrV, List.length_drop] at this
  rw [show ((l.length : Int) - ((l.length - e : Nat) : Int)) = e by omega] at this
  exact this
theorem bits_ok (n : Nat) : ∀ (s : Tx) (ap : Bool) (l : List Bt), s.length ≤ n → bitsS ap s = some l → l.length ≤ s.length ∧ ∀ x ∈ l, x.text.length ≤ s.length := by
  induction n with
  | zero =>
    intro s ap l hs h
    have : s = [] := List.eq_nil_of_length_eq_zero (by omega)
    subst this
    rw [bits_nil] at h; injection h with h; subst h; simp
  | succ n ih =>
    intro s ap l hs h
    cases s with
    | nil => rw [bits_nil] at h; injection h with h; subst h; simp
    | cons c r =>
      simp only [List.length_cons] at hs ⊢
      have fin : ∀ (q : Tx) (x : Bt) (l' : List Bt), q.length ≤ r.length → x.text.length ≤ r.length + 1 → bitsS false q = some l' → x :: l' = l → l.length ≤ r.length + 1 ∧ ∀ x ∈ l, x.text.length ≤ r.length + 1 := by
        intro q x l' hq hx h1 h2
        obtain ⟨i1, i2⟩ := ih q false l' (by omega) h1
        subst h2
        refine ⟨by simp; omega, fun y hy => ?_⟩
        rcases List.mem_cons.1 hy with rfl | hy
        · exact hx
        · have := i2 y hy; omega
      cases e : blkB c with
      | true =>
        rw [bits_blank e] at h
        obtain ⟨i1, i2⟩ := ih r true l (by omega) h
        exact ⟨by omega, fun x hx => by have := i2 x hx; omega⟩
      | false =>
        cases e2 : runB c with
        | true =>
          rw [bits_run e2] at h
          obtain ⟨l', h1, h2⟩ := Option.map_eq_some_iff.1 h
          have h3 := off_lt (c :: r) (by rw [runS_cons e2]; simp)
          have h4 := (List.takeWhile_sublist (l := c :: r) runB).length_le
          simp only [List.length_cons] at h3 h4
          exact fin _ _ l' (by omega) h4 h1 h2
        | false =>
          by_cases e3 : c = 34
          · subst e3
            cases e4 : quoS r with
            | none => rw [bits_quoN e4] at h; cases h
            | some q =>
              rw [bits_quoS e4] at h
              obtain ⟨l', h1, h2⟩ := Option.map_eq_some_iff.1 h
              have := quo_lt _ _ e4
              exact fin q _ l' (by omega) (by simp) h1 h2
          · rw [bits_one e e2 e3] at h
            obtain ⟨l', h1, h2⟩ := Option.map_eq_some_iff.1 h
            exact fin r _ l' (by omega) (by simp) h1 h2
theorem bits_short {s : Tx} {l : List Bt} (h : bitsS false s = some l) (hs : s.length ≤ 4096) : l.length ≤ 4096 ∧ Short l := by
  obtain ⟨h1, h2⟩ := bits_ok s.length s false l (Nat.le_refl _) h
  exact ⟨by omega, fun x hx => by have := h2 x hx; omega⟩
theorem bitsOf_none (T : Tbl) (s : Tx) (hs : s.length ≤ 4096) (h : bitsS false s = none) : PC Tryd.prog T 125 [.d (.str s)] (.tup [.any, .d (.bool false)]) := by
  have := bitsOf_c T s hs
  rw [h] at this; exact this
theorem bitsOf_some (T : Tbl) (s : Tx) (hs : s.length ≤ 4096) (l : List Bt) (h : bitsS false s = some l) : PC Tryd.prog T 125 [.d (.str s)] (.tup [.d (.slc 4 (btsD l)), .d (.bool true)]) := by
  have := bitsOf_c T s hs
  rw [h] at this; exact this
def adD (a : Ad) : List D := [.str a.1, .str a.2]
def adsD (l : List Ad) : List (List D) := l.map adD
@[go_sem] theorem adsD_len (l : List Ad) : (adsD l).length = l.length := by simp [adsD]
def listV : Option (List Ad) → AV
  | some l => .tup [.d (.slc 2 (adsD l)), .d (.bool true)]
  | none => .tup [.d (.slc 2 []), .d (.bool false)]
theorem lessF : (((-1 : Int) < 0)) = True := by simp
theorem lb_none {l : List Bt} {k : Nat} (h : addrB (l.drop k) = none) : listB (l.drop k) = none := listB_none h
set_option maxRecDepth 4000 in
set_option maxHeartbeats 1000000 in
theorem listOf_c (T : Tbl) (hL : LibT T) (s : Tx) (hs : s.length ≤ 4096) : PC Tryd.prog T 93 [.d (.str s)] (listV (listS s)) := by
  refine ⟨Tryd.call93, PCall.enterS Tryd.func93 rfl Tryd.ntmps93 rfl fun hb => ?_⟩
  simp only [go_sem, Tryd.results93]
  refine AWp.rs fun K1 hK1 => ?_
  try simp only [go_sem, icast, adD]
  (repeat (with_reducible refine And.intro ?_ ?_; (first | omega | (intro _; omega) | decide | (exact nfB) | (intro _; exact nfB) | (intro hg; refine ⟨hg, ?_⟩; omega) | (simp; done) | (simp; omega) | (intro hg; simp at hg; done) | (intro hg; simp at hg ⊢; first | omega | exact hg | grind))))
  refine hK1 _ _ ?_
  try clear hK1 K1
  rcases hb0 : bitsS false s with _ | l
  · skip
    refine AWp.rs fun K2 hK2 => ?_
    try simp only [go_sem, icast, adD]
    (repeat (with_reducible refine And.intro ?_ ?_; (first | omega | (intro _; omega) | decide | (exact nfB) | (intro _; exact nfB) | (intro hg; refine ⟨hg, ?_⟩; omega) | (simp; done) | (simp; omega) | (intro hg; simp at hg; done) | (intro hg; simp at hg ⊢; first | omega | exact hg | grind))))
    refine DW.pcr rfl rfl rfl rfl (bitsOf_none T s hs hb0) rfl rfl ?_
    try simp only [go_sem, icast, adD]
    (repeat (with_reducible refine And.intro ?_ ?_; (first | omega | (intro _; omega) | decide | (exact nfB) | (intro _; exact nfB) | (intro hg; refine ⟨hg, ?_⟩; omega) | (simp; done) | (simp; omega) | (intro hg; simp at hg; done) | (intro hg; simp at hg ⊢; first | omega | exact hg | grind))))
    refine hK2 _ _ ?_
    try clear hK2 K2
    refine AWp.mask [false, false, false, true, true] rfl ?_
    simp only [go_sem]
    refine AWp.seq fun K3 hK3 => ?_
    refine AWp.rs fun K4 hK4 => ?_
    try simp only [go_sem, icast, adD]
    (repeat (with_reducible refine And.intro ?_ ?_; (first | omega | (intro _; omega) | decide | (exact nfB) | (intro _; exact nfB) | (intro hg; refine ⟨hg, ?_⟩; omega) | (simp; done) | (simp; omega) | (intro hg; simp at hg; done) | (intro hg; simp at hg ⊢; first | omega | exact hg | grind))))
    refine hK4 _ _ ?_
    try clear hK4 K4
    refine AWp.cond _ rfl (fun hc0 => ?_) (fun hc0 => ?_)
    · skip
      try simp only [decide_eq_true_eq, decide_eq_false_iff_not, Bool.not_eq_true', Bool.not_eq_false', Bool.and_eq_true, Bool.or_eq_true, Bool.and_eq_false_iff, Bool.or_eq_false_iff, Int.not_lt, Int.not_le, beq_iff_eq, beq_eq_false_iff_ne, ne_eq, Bool.not_eq_true, Bool.not_eq_false] at hc0
      refine AWp.rs fun K5 hK5 => ?_
      try simp only [go_sem, icast, adD]
      (repeat (with_reducible refine And.intro ?_ ?_; (first | omega | (intro _; omega) | decide | (exact nfB) | (intro _; exact nfB) | (intro hg; refine ⟨hg, ?_⟩; omega) | (simp; done) | (simp; omega) | (intro hg; simp at hg; done) | (intro hg; simp at hg ⊢; first | omega | exact hg | grind))))
      refine hK5 _ _ ?_
      try clear hK5 K5
      refine AWp.mask [true, true] rfl ?_
      simp only [go_sem]
      refine AWp.ret ?_
      try simp only [go_sem, icast, adD]
      have hn : listS s = none := by have := list_bits s.length s false (Nat.le_refl _); rw [hb0] at this; exact this.symm
      rw [hn]; simp [listV, LeA, LeL, LeD]
    · skip
      exact absurd hc0 (by simp)
  · skip
    obtain ⟨hl, hsh⟩ := bits_short hb0 hs
    have hLS : listB l = listS s := by have := list_bits s.length s false (Nat.le_refl _); rw [hb0] at this; exact this
    refine AWp.rs fun K2 hK2 => ?_
    try simp only [go_sem, icast, adD]
    (repeat (with_reducible refine And.intro ?_ ?_; (first | omega | (intro _; omega) | decide | (exact nfB) | (intro _; exact nfB) | (intro hg; refine ⟨hg, ?_⟩; omega) | (simp; done) | (simp; omega) | (intro hg; simp at hg; done) | (intro hg; simp at hg ⊢; first | omega | exact hg | grind))))
    refine DW.pcr rfl rfl rfl rfl (bitsOf_some T s hs l hb0) rfl rfl ?_
    try simp only [go_sem, icast, adD]
    (repeat (with_reducible refine And.intro ?_ ?_; (first | omega | (intro _; omega) | decide | (exact nfB) | (intro _; exact nfB) | (intro hg; refine ⟨hg, ?_⟩; omega) | (simp; done) | (simp; omega) | (intro hg; simp at hg; done) | (intro hg; simp at hg ⊢; first | omega | exact hg | grind))))
    refine hK2 _ _ ?_
    try clear hK2 K2
    refine AWp.mask [false, false, false, true, true] rfl ?_
    simp only [go_sem]
    refine AWp.seq fun K6 hK6 => ?_
    refine AWp.rs fun K7 hK7 => ?_
    try simp only [go_sem, icast, adD]
    (repeat (with_reducible refine And.intro ?_ ?_; (first | omega | (intro _; omega) | decide | (exact nfB) | (intro _; exact nfB) | (intro hg; refine ⟨hg, ?_⟩; omega) | (simp; done) | (simp; omega) | (intro hg; simp at hg; done) | (intro hg; simp at hg ⊢; first | omega | exact hg | grind))))
    refine hK7 _ _ ?_
    try clear hK7 K7
    refine AWp.cond _ rfl (fun hc0 => ?_) (fun hc0 => ?_)
    · skip
      exact absurd hc0 (by simp)
    · skip
      try simp only [decide_eq_true_eq, decide_eq_false_iff_not, Bool.not_eq_true', Bool.not_eq_false', Bool.and_eq_true, Bool.or_eq_true, Bool.and_eq_false_iff, Bool.or_eq_false_iff, Int.not_lt, Int.not_le, beq_iff_eq, beq_eq_false_iff_ne, ne_eq, Bool.not_eq_true, Bool.not_eq_false] at hc0
      refine AWp.skip ?_
      refine thenQ_n ?_
      refine hK6 _ _ ?_
      try clear hK6 K6
      refine AWp.rs fun K8 hK8 => ?_
      try simp only [go_sem, icast, adD]
      (repeat (with_reducible refine And.intro ?_ ?_; (first | omega | (intro _; omega) | decide | (exact nfB) | (intro _; exact nfB) | (intro hg; refine ⟨hg, ?_⟩; omega) | (simp; done) | (simp; omega) | (intro hg; simp at hg; done) | (intro hg; simp at hg ⊢; first | omega | exact hg | grind))))
      refine hK8 _ _ ?_
      try clear hK8 K8
      refine AWp.ownNilS 6 2 rfl rfl (by decide) fun t0 ft0 => ?_
      try simp only [freshT] at ft0
      simp only [go_sem, icast, adD, ft0]
      refine AWp.rs fun K9 hK9 => ?_
      try simp only [go_sem, icast, adD, ft0]
      (repeat (with_reducible refine And.intro ?_ ?_; (first | omega | (intro _; omega) | decide | (exact nfB) | (intro _; exact nfB) | (intro hg; refine ⟨hg, ?_⟩; omega) | (simp; done) | (simp; omega) | (intro hg; simp at hg; done) | (intro hg; simp at hg ⊢; first | omega | exact hg | grind))))
      refine hK9 _ _ ?_
      try clear hK9 K9
      refine AWp.block ?_
      refine AWp.mask [true, false, true, true] rfl ?_
      simp only [go_sem]
      refine AWp.loopS [true] [false, true, true] (fun n lc hc => ∃ (k v : Nat) (Y : List Ad), n = l.length - k ∧ EqS lc [(6, .own v 2 (adsD Y)), (7, .d (.int .i64 k))] ∧ EqS hc (⟨[], [v]⟩) ∧ (k ≤ l.length) ∧ (Y.length ≤ k) ∧ ((listB (l.drop k)).map (Y ++ ·) = listB l)) rfl ?_ ?_
      · refine ⟨_, 0, t0, [], rfl, ?_, ?_, ?_, ?_, ?_⟩
        · (try simp only [go_sem, icast, adD, ft0]) <;> first | exact ⟨rfl⟩ | (constructor; simp [adsD]; done)
        · (try simp only [go_sem, icast, adD, ft0]) <;> first | exact ⟨rfl⟩ | (constructor; simp; done)
        all_goals (first | omega | (simp; done) | (cases listB l <;> rfl))
      · rintro _ _ _ ⟨k, v, Y, rfl, ⟨rfl⟩, ⟨rfl⟩, h1, h2, h3⟩
        simp only [go_sem]
        refine AWp.block ?_
        rcases hp : addrB (l.drop k) with _ | x
        · skip
          refine AWp.rs fun K10 hK10 => ?_
          try simp only [go_sem, icast, adD, ft0, lessF]
          (repeat (with_reducible refine And.intro ?_ ?_; (first | omega | (intro _; omega) | decide | (exact nfB) | (intro _; exact nfB) | (intro hg; refine ⟨hg, ?_⟩; omega) | (simp; done) | (simp; omega) | (intro hg; simp at hg; done) | (intro hg; simp at hg ⊢; first | omega | exact hg | grind))))
          refine DW.pcr rfl rfl rfl rfl (addressAt_none T hL l k hsh (by omega) hl hp) rfl rfl ?_
          try simp only [go_sem, icast, adD, ft0, lessF]
          (repeat (with_reducible refine And.intro ?_ ?_; (first | omega | (intro _; omega) | decide | (exact nfB) | (intro _; exact nfB) | (intro hg; refine ⟨hg, ?_⟩; omega) | (simp; done) | (simp; omega) | (intro hg; simp at hg; done) | (intro hg; simp at hg ⊢; first | omega | exact hg | grind))))
          intro b8
          first | intro fb8 | have fb8 := True.intro
          try simp only [freshL] at fb8
          try simp only [go_sem, icast, adD, ft0, lessF, fb8]
          (repeat (with_reducible refine And.intro ?_ ?_; (first | omega | (intro _; omega) | decide | (exact nfB) | (intro _; exact nfB) | (intro hg; refine ⟨hg, ?_⟩; omega) | (simp; done) | (simp; omega) | (intro hg; simp at hg; done) | (intro hg; simp at hg ⊢; first | omega | exact hg | grind))))
          refine hK10 _ _ ?_
          try clear hK10 K10
          refine AWp.mask [true, true, false, true, true] rfl ?_
          simp only [go_sem]
          refine AWp.seq fun K11 hK11 => ?_
          refine AWp.rs fun K12 hK12 => ?_
          try simp only [go_sem, icast, adD, ft0, lessF, fb8]
          (repeat (with_reducible refine And.intro ?_ ?_; (first | omega | (intro _; omega) | decide | (exact nfB) | (intro _; exact nfB) | (intro hg; refine ⟨hg, ?_⟩; omega) | (simp; done) | (simp; omega) | (intro hg; simp at hg; done) | (intro hg; simp at hg ⊢; first | omega | exact hg | grind))))
          refine hK12 _ _ ?_
          try clear hK12 K12
          refine AWp.cond _ rfl (fun hc1 => ?_) (fun hc1 => ?_)
          · skip
            try simp only [decide_eq_true_eq, decide_eq_false_iff_not, Bool.not_eq_true', Bool.not_eq_false', Bool.and_eq_true, Bool.or_eq_true, Bool.and_eq_false_iff, Bool.or_eq_false_iff, Int.not_lt, Int.not_le, beq_iff_eq, beq_eq_false_iff_ne, ne_eq, Bool.not_eq_true, Bool.not_eq_false] at hc1
            refine AWp.rs fun K13 hK13 => ?_
            try simp only [go_sem, icast, adD, ft0, lessF, fb8]
            (repeat (with_reducible refine And.intro ?_ ?_; (first | omega | (intro _; omega) | decide | (exact nfB) | (intro _; exact nfB) | (intro hg; refine ⟨hg, ?_⟩; omega) | (simp; done) | (simp; omega) | (intro hg; simp at hg; done) | (intro hg; simp at hg ⊢; first | omega | exact hg | grind))))
            refine hK13 _ _ ?_
            try clear hK13 K13
            refine AWp.mask [true, true] rfl ?_
            simp only [go_sem]
            refine AWp.ret ?_
            try simp only [go_sem, icast, adD, ft0, lessF, fb8]
            first | (exfalso; omega) | (rw [(by rw [← hLS, ← h3, listB_none hp]; rfl : listS s = none)]; simp [listV, LeA, LeL, LeD])
          · skip
            exact absurd hc1 (by simp)
        · skip
          obtain ⟨a, t⟩ := x
          obtain ⟨e, he1, he2, rfl⟩ := addr_t hp
          refine AWp.rs fun K10 hK10 => ?_
          try simp only [go_sem, icast, adD, ft0]
          (repeat (with_reducible refine And.intro ?_ ?_; (first | omega | (intro _; omega) | decide | (exact nfB) | (intro _; exact nfB) | (intro hg; refine ⟨hg, ?_⟩; omega) | (simp; done) | (simp; omega) | (intro hg; simp at hg; done) | (intro hg; simp at hg ⊢; first | omega | exact hg | grind))))
          refine DW.pcr rfl rfl rfl rfl (addressAt_some T hL l k e hsh (by omega) hl a he2 hp) rfl rfl ?_
          try simp only [go_sem, icast, adD, ft0]
          (repeat (with_reducible refine And.intro ?_ ?_; (first | omega | (intro _; omega) | decide | (exact nfB) | (intro _; exact nfB) | (intro hg; refine ⟨hg, ?_⟩; omega) | (simp; done) | (simp; omega) | (intro hg; simp at hg; done) | (intro hg; simp at hg ⊢; first | omega | exact hg | grind))))
          intro b8
          first | intro fb8 | have fb8 := True.intro
          try simp only [freshL] at fb8
          try simp only [go_sem, icast, adD, ft0, fb8]
          (repeat (with_reducible refine And.intro ?_ ?_; (first | omega | (intro _; omega) | decide | (exact nfB) | (intro _; exact nfB) | (intro hg; refine ⟨hg, ?_⟩; omega) | (simp; done) | (simp; omega) | (intro hg; simp at hg; done) | (intro hg; simp at hg ⊢; first | omega | exact hg | grind))))
          refine hK10 _ _ ?_
          try clear hK10 K10
          refine AWp.mask [true, true, false, true, true] rfl ?_
          simp only [go_sem]
          refine AWp.seq fun K14 hK14 => ?_
          refine AWp.rs fun K15 hK15 => ?_
          try simp only [go_sem, icast, adD, ft0, fb8]
          (repeat (with_reducible refine And.intro ?_ ?_; (first | omega | (intro _; omega) | decide | (exact nfB) | (intro _; exact nfB) | (intro hg; refine ⟨hg, ?_⟩; omega) | (simp; done) | (simp; omega) | (intro hg; simp at hg; done) | (intro hg; simp at hg ⊢; first | omega | exact hg | grind))))
          refine hK15 _ _ ?_
          try clear hK15 K15
          refine AWp.cond _ rfl (fun hc1 => ?_) (fun hc1 => ?_)
          · skip
            try simp only [decide_eq_true_eq, decide_eq_false_iff_not, Bool.not_eq_true', Bool.not_eq_false', Bool.and_eq_true, Bool.or_eq_true, Bool.and_eq_false_iff, Bool.or_eq_false_iff, Int.not_lt, Int.not_le, beq_iff_eq, beq_eq_false_iff_ne, ne_eq, Bool.not_eq_true, Bool.not_eq_false] at hc1
            refine AWp.rs fun K16 hK16 => ?_
            try simp only [go_sem, icast, adD, ft0, fb8]
            (repeat (with_reducible refine And.intro ?_ ?_; (first | omega | (intro _; omega) | decide | (exact nfB) | (intro _; exact nfB) | (intro hg; refine ⟨hg, ?_⟩; omega) | (simp; done) | (simp; omega) | (intro hg; simp at hg; done) | (intro hg; simp at hg ⊢; first | omega | exact hg | grind))))
            refine hK16 _ _ ?_
            try clear hK16 K16
            refine AWp.mask [true, true] rfl ?_
            simp only [go_sem]
            refine AWp.ret ?_
            try simp only [go_sem, icast, adD, ft0, fb8]
            first | (exfalso; omega) | (rw [(by rw [← hLS, ← h3, listB_none hp]; rfl : listS s = none)]; simp [listV, LeA, LeL, LeD])
          · skip
            try simp only [decide_eq_true_eq, decide_eq_false_iff_not, Bool.not_eq_true', Bool.not_eq_false', Bool.and_eq_true, Bool.or_eq_true, Bool.and_eq_false_iff, Bool.or_eq_false_iff, Int.not_lt, Int.not_le, beq_iff_eq, beq_eq_false_iff_ne, ne_eq, Bool.not_eq_true, Bool.not_eq_false] at hc1
            refine AWp.skip ?_
            refine thenQ_n ?_
            refine hK14 _ _ ?_
            try clear hK14 K14
            refine AWp.rs fun K17 hK17 => ?_
            try simp only [go_sem, icast, adD, ft0, fb8]
            (repeat (with_reducible refine And.intro ?_ ?_; (first | omega | (intro _; omega) | decide | (exact nfB) | (intro _; exact nfB) | (intro hg; refine ⟨hg, ?_⟩; omega) | (simp; done) | (simp; omega) | (intro hg; simp at hg; done) | (intro hg; simp at hg ⊢; first | omega | exact hg | grind))))
            refine DW.app rfl rfl rfl rfl (show slI Tryd.prog 134 = some (80, 2, 32) by simp only [go_sem]) rfl rfl (by simp only [go_sem, icast, adD, ft0, fb8]) (by first | exact .inl rfl | exact .inr rfl) (by (try simp only [go_sem]); omega) (by (try simp only [go_sem]); omega) fun t1 ft1 => ?_
            try simp only [freshT] at ft1
            try simp only [go_sem, icast, adD, ft0, fb8, ft1]
            (repeat (with_reducible refine And.intro ?_ ?_; (first | omega | (intro _; omega) | decide | (exact nfB) | (intro _; exact nfB) | (intro hg; refine ⟨hg, ?_⟩; omega) | (simp; done) | (simp; omega) | (intro hg; simp at hg; done) | (intro hg; simp at hg ⊢; first | omega | exact hg | grind))))
            refine hK17 _ _ ?_
            try clear hK17 K17
            refine AWp.mask [true, true, false, true] rfl ?_
            simp only [go_sem]
            refine AWp.seq fun K18 hK18 => ?_
            refine AWp.rs fun K19 hK19 => ?_
            try simp only [go_sem, icast, adD, ft0, fb8, ft1]
            (repeat (with_reducible refine And.intro ?_ ?_; (first | omega | (intro _; omega) | decide | (exact nfB) | (intro _; exact nfB) | (intro hg; refine ⟨hg, ?_⟩; omega) | (simp; done) | (simp; omega) | (intro hg; simp at hg; done) | (intro hg; simp at hg ⊢; first | omega | exact hg | grind))))
            refine hK19 _ _ ?_
            try clear hK19 K19
            refine AWp.cond _ rfl (fun hc2 => ?_) (fun hc2 => ?_)
            · skip
              try simp only [decide_eq_true_eq, decide_eq_false_iff_not, Bool.not_eq_true', Bool.not_eq_false', Bool.and_eq_true, Bool.or_eq_true, Bool.and_eq_false_iff, Bool.or_eq_false_iff, Int.not_lt, Int.not_le, beq_iff_eq, beq_eq_false_iff_ne, ne_eq, Bool.not_eq_true, Bool.not_eq_false] at hc2
              have hst : listB (l.drop k) = some [a] := by
                have h0 : l.drop e = [] := List.drop_eq_nil_of_le (by omega)
                rw [h0] at hp
                exact listB_one hp
              refine AWp.rs fun K20 hK20 => ?_
              try simp only [go_sem, icast, adD, ft0, fb8, ft1]
              (repeat (with_reducible refine And.intro ?_ ?_; (first | omega | (intro _; omega) | decide | (exact nfB) | (intro _; exact nfB) | (intro hg; refine ⟨hg, ?_⟩; omega) | (simp; done) | (simp; omega) | (intro hg; simp at hg; done) | (intro hg; simp at hg ⊢; first | omega | exact hg | grind))))
              refine hK20 _ _ ?_
              try clear hK20 K20
              refine AWp.mask [true, true] rfl ?_
              simp only [go_sem]
              refine AWp.ret ?_
              try simp only [go_sem, icast, adD, ft0, fb8, ft1]
              have hn : listS s = some (Y ++ [a]) := by rw [← hLS, ← h3, hst]; rfl
              rw [hn]; simp [listV, adsD, adD, LeA, LeL, LeD]
            · skip
              try simp only [decide_eq_true_eq, decide_eq_false_iff_not, Bool.not_eq_true', Bool.not_eq_false', Bool.and_eq_true, Bool.or_eq_true, Bool.and_eq_false_iff, Bool.or_eq_false_iff, Int.not_lt, Int.not_le, beq_iff_eq, beq_eq_false_iff_ne, ne_eq, Bool.not_eq_true, Bool.not_eq_false] at hc2
              have hel : e < l.length := by omega
              rw [List.drop_eq_getElem_cons hel] at hp
              refine AWp.skip ?_
              refine thenQ_n ?_
              refine hK18 _ _ ?_
              try clear hK18 K18
              refine AWp.mask [true, true, true] rfl ?_
              simp only [go_sem]
              refine AWp.seq fun K21 hK21 => ?_
              refine AWp.rs fun K22 hK22 => ?_
              try simp only [go_sem, icast, adD, ft0, fb8, ft1, btsD_get l e _ hel, btD]
              (repeat (with_reducible refine And.intro ?_ ?_; (first | omega | (intro _; omega) | decide | (exact nfB) | (intro _; exact nfB) | (intro hg; refine ⟨hg, ?_⟩; omega) | (simp; done) | (simp; omega) | (intro hg; simp at hg; done) | (intro hg; simp at hg ⊢; first | omega | exact hg | grind))))
              refine hK22 _ _ ?_
              try clear hK22 K22
              refine AWp.mask [true, true, true, false, false, false, false, false, true] rfl ?_
              simp only [go_sem]
              refine AWp.cond _ rfl (fun hc3 => ?_) (fun hc3 => ?_)
              · skip
                try simp only [decide_eq_true_eq, decide_eq_false_iff_not, Bool.not_eq_true', Bool.not_eq_false', Bool.and_eq_true, Bool.or_eq_true, Bool.and_eq_false_iff, Bool.or_eq_false_iff, Int.not_lt, Int.not_le, beq_iff_eq, beq_eq_false_iff_ne, ne_eq, Bool.not_eq_true, Bool.not_eq_false] at hc3
                have hst : listB (l.drop k) = none := by rw [listB_more hp, if_neg (by simpa using hc3)]
                refine AWp.rs fun K23 hK23 => ?_
                try simp only [go_sem, icast, adD, ft0, fb8, ft1, btsD_get l e _ hel, btD]
                (repeat (with_reducible refine And.intro ?_ ?_; (first | omega | (intro _; omega) | decide | (exact nfB) | (intro _; exact nfB) | (intro hg; refine ⟨hg, ?_⟩; omega) | (simp; done) | (simp; omega) | (intro hg; simp at hg; done) | (intro hg; simp at hg ⊢; first | omega | exact hg | grind))))
                refine hK23 _ _ ?_
                try clear hK23 K23
                refine AWp.mask [true, true] rfl ?_
                simp only [go_sem]
                refine AWp.ret ?_
                try simp only [go_sem, icast, adD, ft0, fb8, ft1, btsD_get l e _ hel, btD]
                have hn : listS s = none := by rw [← hLS, ← h3, hst]; rfl
                rw [hn]; simp [listV, LeA, LeL, LeD]
              · skip
                try simp only [decide_eq_true_eq, decide_eq_false_iff_not, Bool.not_eq_true', Bool.not_eq_false', Bool.and_eq_true, Bool.or_eq_true, Bool.and_eq_false_iff, Bool.or_eq_false_iff, Int.not_lt, Int.not_le, beq_iff_eq, beq_eq_false_iff_ne, ne_eq, Bool.not_eq_true, Bool.not_eq_false] at hc3
                have hst : listB (l.drop k) = (listB (l.drop (e + 1))).map (a :: ·) := by rw [listB_more hp, if_pos (by simpa using hc3)]
                refine AWp.skip ?_
                refine thenQ_n ?_
                refine hK21 _ _ ?_
                try clear hK21 K21
                refine AWp.rk fun K24 hK24 => ?_
                try simp only [go_sem, icast, adD, ft0, fb8, ft1, btsD_get l e _ hel, btD]
                (repeat (with_reducible refine And.intro ?_ ?_; (first | omega | (intro _; omega) | decide | (exact nfB) | (intro _; exact nfB) | (intro hg; refine ⟨hg, ?_⟩; omega) | (simp; done) | (simp; omega) | (intro hg; simp at hg; done) | (intro hg; simp at hg ⊢; first | omega | exact hg | grind))))
                refine hK24 _ _ ?_
                try clear hK24 K24
                refine blkQ_n (thenQ_n ?_)
                refine EndS.mk [true] [false, true, true] [b8] [] [] [t1] rfl ?_ ?_
                · (try simp only [go_sem, icast, adD, ft0, fb8, ft1, btsD_get l e _ hel, btD]) <;> try rfl
                refine .e ⟨_, ?_, (e + 1), t1, (Y ++ [a]), rfl, ?_, ?_, ?_, ?_, ?_⟩
                · first | omega | (simp; omega) | (grind)
                · (try simp only [go_sem, icast, adD, ft0, fb8, ft1, btsD_get l e _ hel, btD]) <;> first | exact ⟨rfl⟩ | (constructor; simp [adsD, adD]; done)
                · (try simp only [go_sem, icast, adD, ft0, fb8, ft1, btsD_get l e _ hel, btD]) <;> first | exact ⟨rfl⟩ | (constructor; simp; done)
                · omega
                · simp; omega
                · rw [← h3, hst]; cases listB (l.drop (e + 1)) <;> simp
end Go.Proofs.YthhfbolhlbgbgaaDoor

namespace Go.Proofs.YthhfbolhlbgbgaaDoor
set_option linter.unusedSimpArgs false
set_option linter.unusedVariables false
theorem adsD_app (l : List Ad) (a : Ad) : adsD l ++ [[D.str a.1, D.str a.2]] = adsD (l ++ [a]) := by simp [adsD, adD]
def adsV (r : List Ad × Int) : AV := .tup [.d (.slc 2 (adsD r.1)), .d (.int .i64 r.2)]
theorem list1_none (T : Tbl) (b2 b3 : Nat) (h : AH) : ADefer Tryd.prog T 127 [.ptr b2 1 0 0, .ptr b3 1 0 0] h none (fun h' => h' = h) := by
  refine ADefer.enter (t0 := 3) (t1 := 2) Tryd.call127 Tryd.func127 rfl Tryd.ntmps127 Tryd.results127 rfl rfl rfl rfl rfl rfl rfl rfl trivial ?_
  simp only [go_sem, Option.getD]
  refine AWp.rs fun K1 hK1 => ?_
  try simp only [go_sem]
  refine hK1 _ _ ?_
  refine AWp.cond _ rfl (fun hc => ?_) (fun hc => ?_)
  · exact absurd hc (by simp)
  · exact AWp.skip rfl
theorem list1_some (T : Tbl) (b2 b3 : Nat) (x : AV) (y e : Int) (F : List (Nat × Ob)) (L : List Nat) (h23 : (b2 == b3) = false) : ADefer Tryd.prog T 127 [.ptr b2 1 0 0, .ptr b3 1 0 0] ⟨(b2, ⟨1, 1, [[x]]⟩) :: (b3, ⟨1, 1, [[.d (.int .i64 y)]]⟩) :: F, L⟩ (some (.ifc 26 (.d (.int .i64 e)))) (fun h' => h' = ⟨(b2, ⟨1, 1, [[.nils]]⟩) :: (b3, ⟨1, 1, [[.d (.int .i64 e)]]⟩) :: F, L⟩) := by
  refine ADefer.enter (t0 := 3) (t1 := 2) Tryd.call127 Tryd.func127 rfl Tryd.ntmps127 Tryd.results127 rfl rfl rfl rfl rfl rfl rfl rfl trivial ?_
  simp only [go_sem, Option.getD]
  refine AWp.rs fun K1 hK1 => ?_
  try simp only [go_sem]
  refine hK1 _ _ ?_
  refine AWp.cond _ rfl (fun hc => ?_) (fun hc => ?_)
  · refine AWp.dk true [0, 1, 2, 3] rfl (by kernel_rfl) fun K2 hK2 => ?_
    try simp only [go_sem, assertP, h23]
    refine hK2 _ _ ?_
    rfl
  · exact absurd hc (by simp)
theorem list_step {s : Tx} {j j1 j2 : Nat} {a : Ad} (hq : addrS true (s.drop j) = some (a, s.drop j1)) (hsk : s.drop j2 = skipS (s.drop j1)) : listS (s.drop j) = match s.drop j2 with | [] => some [a] | c :: q => if c = 44 then (listS q).map (a :: ·) else none := by
  rw [listS_some hq, ← hsk]
  rfl
theorem list_no {s : Tx} {j j1 j2 : Nat} {a : Ad} (hq : addrS true (s.drop j) = some (a, s.drop j1)) (hsk : s.drop j2 = skipS (s.drop j1)) (h1 : j2 < s.length) (h : (s.drop j2).head? ≠ some 44) : listS (s.drop j) = none := by
  rw [list_step hq hsk, drop_cons h1]
  rw [drop_cons h1] at h
  simp at h
  simp [h]
theorem list_more {s : Tx} {j j1 j2 : Nat} {a : Ad} (hq : addrS true (s.drop j) = some (a, s.drop j1)) (hsk : s.drop j2 = skipS (s.drop j1)) (hd : s.drop j2 = 44 :: s.drop (j2 + 1)) : listS (s.drop j) = (listS (s.drop (j2 + 1))).map (a :: ·) := by
  rw [list_step hq hsk, hd]; simp
theorem list_end {s : Tx} {j j1 j2 : Nat} {a : Ad} (hq : addrS true (s.drop j) = some (a, s.drop j1)) (hsk : s.drop j2 = skipS (s.drop j1)) (h1 : s.length ≤ j2) : listS (s.drop j) = some [a] := by
  rw [list_step hq hsk, drop_none h1]
theorem listR_no {s : Tx} (h : ¬ 2000 < s.length) (hn : listS s = none) : listR s = ([], 3) := by rw [listR, if_neg h, hn]
theorem listR_full {s : Tx} {l : List Ad} (h : ¬ 2000 < s.length) (hn : listS s = some l) (hl : 20 < l.length) : listR s = ([], 5) := by rw [listR, if_neg h, hn]; exact if_pos hl
theorem listR_ok {s : Tx} {l : List Ad} (h : ¬ 2000 < s.length) (hn : listS s = some l) (hl : ¬ 20 < l.length) : listR s = (l, 0) := by rw [listR, if_neg h, hn]; exact if_neg hl
set_option maxRecDepth 4000 in
set_option maxHeartbeats 1000000 in
theorem List_a (T : Tbl) (hL : LibT T) (s : Tx) : AC Tryd.prog T 98 [.d (.str s)] (⟨[], []⟩) (fun x _ => x = .ret (adsV (listR s))) := by
  refine ⟨Tryd.call98, ACalls.enterD Tryd.func98 rfl Tryd.ntmps98 rfl fun hb => ?_⟩
  simp only [go_sem, Tryd.results98]
  refine AWpD.seq fun K1 hK1 => ?_
  refine AWp.rk fun K2 hK2 => ?_
  try simp only [go_sem, wob, icast]
  (repeat (with_reducible refine And.intro ?_ ?_; (first | omega | (intro _; omega) | decide | (exact nfB) | (intro _; exact nfB) | (intro hg; refine ⟨hg, ?_⟩; omega) | (simp; done) | (simp; omega) | (intro hg; simp at hg; done) | (intro hg; simp at hg ⊢; first | omega | exact hg | grind))))
  intro b2
  first | intro fb2 | have fb2 := True.intro
  try simp only [freshL, wob] at fb2
  try simp only [go_sem, wob, icast, fb2]
  (repeat (with_reducible refine And.intro ?_ ?_; (first | omega | (intro _; omega) | decide | (exact nfB) | (intro _; exact nfB) | (intro hg; refine ⟨hg, ?_⟩; omega) | (simp; done) | (simp; omega) | (intro hg; simp at hg; done) | (intro hg; simp at hg ⊢; first | omega | exact hg | grind))))
  intro b3
  first | intro fb3 | have fb3 := True.intro
  try simp only [freshL, wob] at fb3
  try simp only [go_sem, wob, icast, fb2, fb3]
  (repeat (with_reducible refine And.intro ?_ ?_; (first | omega | (intro _; omega) | decide | (exact nfB) | (intro _; exact nfB) | (intro hg; refine ⟨hg, ?_⟩; omega) | (simp; done) | (simp; omega) | (intro hg; simp at hg; done) | (intro hg; simp at hg ⊢; first | omega | exact hg | grind))))
  refine hK2 _ _ ?_
  try clear hK2 K2
  refine thenQ_n ?_
  refine hK1 _ _ ?_
  try clear hK1 K1
  refine AWpD.seq fun K3 hK3 => ?_
  refine AWp.rs fun K4 hK4 => ?_
  try simp only [go_sem, wob, icast, fb2, fb3]
  (repeat (with_reducible refine And.intro ?_ ?_; (first | omega | (intro _; omega) | decide | (exact nfB) | (intro _; exact nfB) | (intro hg; refine ⟨hg, ?_⟩; omega) | (simp; done) | (simp; omega) | (intro hg; simp at hg; done) | (intro hg; simp at hg ⊢; first | omega | exact hg | grind))))
  refine hK4 _ _ ?_
  try clear hK4 K4
  refine AWp.cond _ rfl (fun hc0 => ?_) (fun hc0 => ?_)
  · skip
    try simp only [decide_eq_true_eq, decide_eq_false_iff_not, Bool.not_eq_true', Bool.not_eq_false', Bool.and_eq_true, Bool.or_eq_true, Bool.and_eq_false_iff, Bool.or_eq_false_iff, Int.not_lt, Int.not_le, beq_iff_eq, beq_eq_false_iff_ne, ne_eq, Bool.not_eq_true, Bool.not_eq_false] at hc0
    refine AWp.rs fun K5 hK5 => ?_
    try simp only [go_sem, wob, icast, fb2, fb3]
    (repeat (with_reducible refine And.intro ?_ ?_; (first | omega | (intro _; omega) | decide | (exact nfB) | (intro _; exact nfB) | (intro hg; refine ⟨hg, ?_⟩; omega) | (simp; done) | (simp; omega) | (intro hg; simp at hg; done) | (intro hg; simp at hg ⊢; first | omega | exact hg | grind))))
    refine hK5 _ _ ?_
    try clear hK5 K5
    refine AWp.mask [false, true, true] rfl ?_
    simp only [go_sem]
    refine AWp.ret ?_
    try simp only [thenQ, blkQ]
    simp only [endD]
    apply endW_r [b2, b3] [] [] [] (by (try simp only [go_sem, wob, icast, fb2, fb3]); rfl)
    · rfl
    · rw [listR, if_pos (by omega)]; simp [adsV, adsD, LeA, LeL, LeD]
  · skip
    try simp only [decide_eq_true_eq, decide_eq_false_iff_not, Bool.not_eq_true', Bool.not_eq_false', Bool.and_eq_true, Bool.or_eq_true, Bool.and_eq_false_iff, Bool.or_eq_false_iff, Int.not_lt, Int.not_le, beq_iff_eq, beq_eq_false_iff_ne, ne_eq, Bool.not_eq_true, Bool.not_eq_false] at hc0
    have hs : s.length ≤ 4096 := by omega
    refine AWp.skip ?_
    refine thenQ_n ?_
    refine hK3 _ _ ?_
    try clear hK3 K3
    refine AWpD.defer rfl rfl rfl (by rw [mkS_len]; decide) rfl rfl ?_
    try simp only [go_sem, wob, icast, fb2, fb3]
    refine AWp.mask [true, true, true] rfl ?_
    simp only [go_sem]
    refine AWp.rs fun K6 hK6 => ?_
    try simp only [go_sem, wob, icast, fb2, fb3]
    (repeat (with_reducible refine And.intro ?_ ?_; (first | omega | (intro _; omega) | decide | (exact nfB) | (intro _; exact nfB) | (intro hg; refine ⟨hg, ?_⟩; omega) | (simp; done) | (simp; omega) | (intro hg; simp at hg; done) | (intro hg; simp at hg ⊢; first | omega | exact hg | grind))))
    intro b4
    first | intro fb4 | have fb4 := True.intro
    try simp only [freshL, wob] at fb4
    try simp only [go_sem, wob, icast, fb2, fb3, fb4]
    (repeat (with_reducible refine And.intro ?_ ?_; (first | omega | (intro _; omega) | decide | (exact nfB) | (intro _; exact nfB) | (intro hg; refine ⟨hg, ?_⟩; omega) | (simp; done) | (simp; omega) | (intro hg; simp at hg; done) | (intro hg; simp at hg ⊢; first | omega | exact hg | grind))))
    refine hK6 _ _ ?_
    try clear hK6 K6
    refine AWp.mask [false, true, true, true] rfl ?_
    simp only [go_sem]
    refine AWp.ownNilH b2 0 0 2 (by (try simp only [go_sem, wob, icast, fb2, fb3, fb4]); rfl) rfl rfl (by decide) fun t0 ft0 => ?_
    try simp only [freshT] at ft0
    simp only [go_sem, wob, icast, fb2, fb3, fb4, ft0]
    refine AWp.seq fun K7 hK7 => ?_
    refine AWp.block ?_
    refine AWp.loopS [true, true, true] [] (fun n lc hc => ∃ (j v : Nat) (Y : List Ad), n = s.length - j ∧ EqS lc [] ∧ EqS hc (⟨[wob b4 s j, (b3, ⟨1, 1, [[.d (.int .i64 0)]]⟩), (b2, ⟨1, 1, [[.own v 2 (adsD Y)]]⟩)], [v]⟩) ∧ (j ≤ s.length) ∧ (Y.length ≤ j) ∧ ((listS (s.drop j)).map (Y ++ ·) = listS s)) rfl ?_ ?_
    · refine ⟨_, 0, t0, [], rfl, ?_, ?_, ?_, ?_, ?_⟩
      · (try simp only [go_sem, wob, icast, fb2, fb3, fb4, ft0]) <;> first | exact ⟨rfl⟩ | (constructor; simp; done)
      · (try simp only [go_sem, wob, icast, fb2, fb3, fb4, ft0]) <;> first | exact ⟨rfl⟩ | (constructor; simp [wob, adsD]; done)
      all_goals (first | omega | (simp; done) | (cases listS s <;> rfl))
    · rintro _ _ _ ⟨j, v, Y, rfl, ⟨rfl⟩, ⟨rfl⟩, h1, h2, h3⟩
      simp only [go_sem]
      refine AWp.block ?_
      refine AWp.dsC [(2, .ptr b2 1 0 0), (3, .ptr b3 1 0 0)] (AgK.mk2 rfl rfl rfl rfl) rfl [1] 0 [2, 3] [4, 5] rfl (by kernel_rfl) rfl fun K8 hK8 => ?_
      try simp only [go_sem, wob, icast, fb2, fb3, fb4, ft0]
      (repeat (with_reducible refine And.intro ?_ ?_; (first | omega | (intro _; omega) | decide | (exact nfB) | (intro _; exact nfB) | (intro hg; refine ⟨hg, ?_⟩; omega) | (simp; done) | (simp; omega) | (intro hg; simp at hg; done) | (intro hg; simp at hg ⊢; first | omega | exact hg | grind))))
      try with_reducible refine Exists.intro _ (And.intro (by first | rfl | (simp only [go_sem, wob, icast, fb2, fb3, fb4, ft0]; first | rfl | exact ⟨by omega, rfl⟩)) ?_)
      try simp only [go_sem, wob, icast, fb2, fb3, fb4, ft0]
      refine DW.acp [b4] [] rfl rfl rfl rfl (by (try simp only [go_sem, wob, icast, fb2, fb3, fb4, ft0]); rfl) rfl (address_c T hL b4 s j _ _ (by omega) hs) ?_
      rintro _ _ (⟨hI9q, rfl, yI9, rfl⟩ | ⟨I9, a10, hI9a, hI9b, hq, rfl, rfl⟩)
      · skip
        intro _ hag
        try simp only [thenQ, blkQ]
        refine endD_p [b4] [] [b2, b3] [] ?_
        simp only [go_sem, wob, icast, fb2, fb3, fb4, ft0]
        refine (list1_some T b2 b3 _ _ _ _ _ (by simp only [wob, icast, fb2, fb3, fb4, ft0])).mono ?_
        rintro _ rfl
        refine dEnd_mk [] [] [] [] (by (try simp only [go_sem, wob, icast, fb2, fb3, fb4, ft0, hag.one, hag.tl.one]); rfl) rfl ?_
        rw [listR_no (by omega) (by rw [← h3, listS_none hI9q]; rfl)]
        simp [adsV, adsD, LeA, LeL, LeD]
      try simp only [go_sem, wob, icast, fb2, fb3, fb4, ft0]
      (repeat (with_reducible refine And.intro ?_ ?_; (first | omega | (intro _; omega) | decide | (exact nfB) | (intro _; exact nfB) | (intro hg; refine ⟨hg, ?_⟩; omega) | (simp; done) | (simp; omega) | (intro hg; simp at hg; done) | (intro hg; simp at hg ⊢; first | omega | exact hg | grind))))
      try with_reducible refine And.intro (by first | rfl | (simp only [go_sem, wob, icast, fb2, fb3, fb4, ft0]; first | done | rfl | exact ⟨by omega, rfl⟩)) ?_
      try simp only [go_sem, wob, icast, fb2, fb3, fb4, ft0]
      (repeat (with_reducible refine And.intro ?_ ?_; (first | omega | (intro _; omega) | decide | (exact nfB) | (intro _; exact nfB) | (intro hg; refine ⟨hg, ?_⟩; omega) | (simp; done) | (simp; omega) | (intro hg; simp at hg; done) | (intro hg; simp at hg ⊢; first | omega | exact hg | grind))))
      refine lvc_ok _ _ _ ?_
      try simp only [go_sem, wob, icast, fb2, fb3, fb4, ft0]
      (repeat (with_reducible refine And.intro ?_ ?_; (first | omega | (intro _; omega) | decide | (exact nfB) | (intro _; exact nfB) | (intro hg; refine ⟨hg, ?_⟩; omega) | (simp; done) | (simp; omega) | (intro hg; simp at hg; done) | (intro hg; simp at hg ⊢; first | omega | exact hg | grind))))
      try with_reducible refine And.intro (by first | rfl | (simp only [go_sem, wob, icast, fb2, fb3, fb4, ft0]; first | done | rfl | exact ⟨by omega, rfl⟩)) ?_
      try simp only [go_sem, wob, icast, fb2, fb3, fb4, ft0]
      (repeat (with_reducible refine And.intro ?_ ?_; (first | omega | (intro _; omega) | decide | (exact nfB) | (intro _; exact nfB) | (intro hg; refine ⟨hg, ?_⟩; omega) | (simp; done) | (simp; omega) | (intro hg; simp at hg; done) | (intro hg; simp at hg ⊢; first | omega | exact hg | grind))))
      refine DW.app rfl rfl rfl rfl (show slI Tryd.prog 134 = some (80, 2, 32) by simp only [go_sem]) rfl rfl (by simp only [go_sem, wob, icast, fb2, fb3, fb4, ft0]) (by first | exact .inl rfl | exact .inr rfl) (by (try simp only [go_sem]); omega) (by (try simp only [go_sem]); omega) fun t1 ft1 => ?_
      try simp only [freshT] at ft1
      try simp only [go_sem, wob, icast, fb2, fb3, fb4, ft0, ft1]
      (repeat (with_reducible refine And.intro ?_ ?_; (first | omega | (intro _; omega) | decide | (exact nfB) | (intro _; exact nfB) | (intro hg; refine ⟨hg, ?_⟩; omega) | (simp; done) | (simp; omega) | (intro hg; simp at hg; done) | (intro hg; simp at hg ⊢; first | omega | exact hg | grind))))
      refine hK8 _ _ ?_
      try clear hK8 K8
      refine AWp.mask [true, true, true] rfl ?_
      simp only [go_sem]
      refine AWp.rsA [(2, .ptr b2 1 0 0), (3, .ptr b3 1 0 0)] (AgK.mk2 rfl rfl rfl rfl) rfl fun K11 hK11 => ?_
      try simp only [go_sem, wob, icast, fb2, fb3, fb4, ft0, ft1]
      (repeat (with_reducible refine And.intro ?_ ?_; (first | omega | (intro _; omega) | decide | (exact nfB) | (intro _; exact nfB) | (intro hg; refine ⟨hg, ?_⟩; omega) | (simp; done) | (simp; omega) | (intro hg; simp at hg; done) | (intro hg; simp at hg ⊢; first | omega | exact hg | grind))))
      refine DW.acp [b4] [] rfl rfl rfl rfl (by (try simp only [go_sem, wob, icast, fb2, fb3, fb4, ft0, ft1]); rfl) rfl (skip_c T b4 s I9 _ _ (by omega) hs) ?_
      rintro _ _ ⟨I12, hI12a, hI12b, hI12c, rfl, rfl⟩
      try simp only [go_sem, wob, icast, fb2, fb3, fb4, ft0, ft1]
      (repeat (with_reducible refine And.intro ?_ ?_; (first | omega | (intro _; omega) | decide | (exact nfB) | (intro _; exact nfB) | (intro hg; refine ⟨hg, ?_⟩; omega) | (simp; done) | (simp; omega) | (intro hg; simp at hg; done) | (intro hg; simp at hg ⊢; first | omega | exact hg | grind))))
      have hsk := hI12c
      refine hK11 _ _ ?_
      try clear hK11 K11
      refine AWp.seq fun K13 hK13 => ?_
      refine AWp.ds true [0, 1, 2, 3, 4, 5, 6, 7, 8, 9] rfl (by kernel_rfl) fun K14 hK14 => ?_
      try simp only [go_sem, wob, icast, fb2, fb3, fb4, ft0, ft1]
      (repeat (with_reducible refine And.intro ?_ ?_; (first | omega | (intro _; omega) | decide | (exact nfB) | (intro _; exact nfB) | (intro hg; refine ⟨hg, ?_⟩; omega) | (simp; done) | (simp; omega) | (intro hg; simp at hg; done) | (intro hg; simp at hg ⊢; first | omega | exact hg | grind))))
      refine hK14 _ _ ?_
      try clear hK14 K14
      refine AWp.mask [true, true, true, false, false, false, false, false, false, false, false, false, false, false, true] rfl ?_
      simp only [go_sem]
      refine AWp.cond _ rfl (fun hc1 => ?_) (fun hc1 => ?_)
      · skip
        try simp only [decide_eq_true_eq, decide_eq_false_iff_not, Bool.not_eq_true', Bool.not_eq_false', Bool.and_eq_true, Bool.or_eq_true, Bool.and_eq_false_iff, Bool.or_eq_false_iff, Int.not_lt, Int.not_le, beq_iff_eq, beq_eq_false_iff_ne, ne_eq, Bool.not_eq_true, Bool.not_eq_false] at hc1
        have hS : listS s = some (Y ++ [a10]) := by rw [← h3, list_end hq hsk (by omega)]; rfl
        refine AWp.exit ?_
        refine thenQ_e (blkQ_d (by decide) (thenQ_e (blkQ_e (thenQ_n ?_))))
        refine hK7 _ _ ?_
        try clear hK7 K7
        refine AWp.seq fun K15 hK15 => ?_
        refine AWp.rs fun K16 hK16 => ?_
        try simp only [go_sem, wob, icast, fb2, fb3, fb4, ft0, ft1]
        (repeat (with_reducible refine And.intro ?_ ?_; (first | omega | (intro _; omega) | decide | (exact nfB) | (intro _; exact nfB) | (intro hg; refine ⟨hg, ?_⟩; omega) | (simp; done) | (simp; omega) | (intro hg; simp at hg; done) | (intro hg; simp at hg ⊢; first | omega | exact hg | grind))))
        refine hK16 _ _ ?_
        try clear hK16 K16
        refine AWp.mask [true, true, false, false, false, false, true] rfl ?_
        simp only [go_sem]
        refine AWp.cond _ rfl (fun hc2 => ?_) (fun hc2 => ?_)
        · skip
          try simp only [decide_eq_true_eq, decide_eq_false_iff_not, Bool.not_eq_true', Bool.not_eq_false', Bool.and_eq_true, Bool.or_eq_true, Bool.and_eq_false_iff, Bool.or_eq_false_iff, Int.not_lt, Int.not_le, beq_iff_eq, beq_eq_false_iff_ne, ne_eq, Bool.not_eq_true, Bool.not_eq_false] at hc2
          refine AWp.rs fun K17 hK17 => ?_
          try simp only [go_sem, wob, icast, fb2, fb3, fb4, ft0, ft1]
          (repeat (with_reducible refine And.intro ?_ ?_; (first | omega | (intro _; omega) | decide | (exact nfB) | (intro _; exact nfB) | (intro hg; refine ⟨hg, ?_⟩; omega) | (simp; done) | (simp; omega) | (intro hg; simp at hg; done) | (intro hg; simp at hg ⊢; first | omega | exact hg | grind))))
          refine hK17 _ _ ?_
          try clear hK17 K17
          refine AWp.ret ?_
          try simp only [thenQ, blkQ]
          refine endD_r [b4] [] [b2, b3] [] ?_
          try simp only [go_sem, wob, icast, fb2, fb3, fb4, ft0, ft1]
          refine (list1_none T b2 b3 _).mono ?_
          rintro _ rfl
          refine dEnd_mk [] [] [] [] (by (try simp only [go_sem, wob, icast, fb2, fb3, fb4, ft0, ft1]); rfl) rfl ?_
          rw [listR_full (by omega) hS (by simp [adsD] at hc2 ⊢; omega)]
          simp [adsV, adsD, adD, LeA, LeL, LeD]
        · skip
          try simp only [decide_eq_true_eq, decide_eq_false_iff_not, Bool.not_eq_true', Bool.not_eq_false', Bool.and_eq_true, Bool.or_eq_true, Bool.and_eq_false_iff, Bool.or_eq_false_iff, Int.not_lt, Int.not_le, beq_iff_eq, beq_eq_false_iff_ne, ne_eq, Bool.not_eq_true, Bool.not_eq_false] at hc2
          refine AWp.skip ?_
          refine thenQ_n ?_
          refine hK15 _ _ ?_
          try clear hK15 K15
          refine AWp.rs fun K18 hK18 => ?_
          try simp only [go_sem, wob, icast, fb2, fb3, fb4, ft0, ft1]
          (repeat (with_reducible refine And.intro ?_ ?_; (first | omega | (intro _; omega) | decide | (exact nfB) | (intro _; exact nfB) | (intro hg; refine ⟨hg, ?_⟩; omega) | (simp; done) | (simp; omega) | (intro hg; simp at hg; done) | (intro hg; simp at hg ⊢; first | omega | exact hg | grind))))
          refine hK18 _ _ ?_
          try clear hK18 K18
          refine AWp.ret ?_
          try simp only [thenQ, blkQ]
          refine endD_r [b4] [] [b2, b3] [] ?_
          try simp only [go_sem, wob, icast, fb2, fb3, fb4, ft0, ft1]
          refine (list1_none T b2 b3 _).mono ?_
          rintro _ rfl
          refine dEnd_mk [] [] [] [] (by (try simp only [go_sem, wob, icast, fb2, fb3, fb4, ft0, ft1]); rfl) rfl ?_
          rw [listR_ok (by omega) hS (by simp [adsD] at hc2 ⊢; omega)]
          simp [adsV, adsD, adD, LeA, LeL, LeD]
      · skip
        try simp only [decide_eq_true_eq, decide_eq_false_iff_not, Bool.not_eq_true', Bool.not_eq_false', Bool.and_eq_true, Bool.or_eq_true, Bool.and_eq_false_iff, Bool.or_eq_false_iff, Int.not_lt, Int.not_le, beq_iff_eq, beq_eq_false_iff_ne, ne_eq, Bool.not_eq_true, Bool.not_eq_false] at hc1
        have hne : I12 < s.length := by omega
        refine AWp.skip ?_
        refine thenQ_n ?_
        refine hK13 _ _ ?_
        try clear hK13 K13
        refine AWp.rsA [(2, .ptr b2 1 0 0), (3, .ptr b3 1 0 0)] (AgK.mk2 rfl rfl rfl rfl) rfl fun K19 hK19 => ?_
        try simp only [go_sem, wob, icast, fb2, fb3, fb4, ft0, ft1]
        (repeat (with_reducible refine And.intro ?_ ?_; (first | omega | (intro _; omega) | decide | (exact nfB) | (intro _; exact nfB) | (intro hg; refine ⟨hg, ?_⟩; omega) | (simp; done) | (simp; omega) | (intro hg; simp at hg; done) | (intro hg; simp at hg ⊢; first | omega | exact hg | grind))))
        refine DW.acp [b4] [] rfl rfl rfl rfl (by (try simp only [go_sem, wob, icast, fb2, fb3, fb4, ft0, ft1]); rfl) rfl (next_c T b4 s I12 _ _ (by omega) hs) ?_
        rintro _ _ ⟨rfl, rfl⟩
        try simp only [go_sem, wob, icast, fb2, fb3, fb4, ft0, ft1]
        (repeat (with_reducible refine And.intro ?_ ?_; (first | omega | (intro _; omega) | decide | (exact nfB) | (intro _; exact nfB) | (intro hg; refine ⟨hg, ?_⟩; omega) | (simp; done) | (simp; omega) | (intro hg; simp at hg; done) | (intro hg; simp at hg ⊢; first | omega | exact hg | grind))))
        refine DW.acp [] [] rfl rfl rfl rfl (by (try simp only [go_sem, wob, icast, fb2, fb3, fb4, ft0, ft1]); rfl) rfl (must_c T _ _) ?_
        rintro _ _ (⟨hm20, rfl, rfl⟩ | ⟨hm20, rfl, rfl⟩)
        · skip
          intro _ hag
          try simp only [thenQ, blkQ]
          refine endD_p [b4] [] [b2, b3] [] ?_
          simp only [decide_eq_true_eq, decide_eq_false_iff_not, Bool.not_eq_true', Bool.not_eq_false', Bool.and_eq_true, Bool.or_eq_true, Bool.and_eq_false_iff, Bool.or_eq_false_iff, Int.not_lt, Int.not_le, beq_iff_eq, beq_eq_false_iff_ne, ne_eq, Bool.not_eq_true, Bool.not_eq_false] at hm20
          simp only [go_sem, wob, icast, fb2, fb3, fb4, ft0, ft1]
          refine (list1_some T b2 b3 _ _ _ _ _ (by simp only [wob, icast, fb2, fb3, fb4, ft0, ft1])).mono ?_
          rintro _ rfl
          refine dEnd_mk [] [] [] [] (by (try simp only [go_sem, wob, icast, fb2, fb3, fb4, ft0, ft1, hag.one, hag.tl.one]); rfl) rfl ?_
          rw [listR_no (by omega) (by rw [← h3, list_no hq hsk hne (head_no (c := 44) rfl hm20)]; rfl)]
          simp [adsV, adsD, LeA, LeL, LeD]
        simp only [decide_eq_true_eq, decide_eq_false_iff_not, Bool.not_eq_true', Bool.not_eq_false', Bool.and_eq_true, Bool.or_eq_true, Bool.and_eq_false_iff, Bool.or_eq_false_iff, Int.not_lt, Int.not_le, beq_iff_eq, beq_eq_false_iff_ne, ne_eq, Bool.not_eq_true, Bool.not_eq_false] at hm20
        obtain ⟨_, hd⟩ := head_is 44 rfl (by decide) hm20
        try simp only [go_sem, wob, icast, fb2, fb3, fb4, ft0, ft1]
        (repeat (with_reducible refine And.intro ?_ ?_; (first | omega | (intro _; omega) | decide | (exact nfB) | (intro _; exact nfB) | (intro hg; refine ⟨hg, ?_⟩; omega) | (simp; done) | (simp; omega) | (intro hg; simp at hg; done) | (intro hg; simp at hg ⊢; first | omega | exact hg | grind))))
        refine hK19 _ _ ?_
        try clear hK19 K19
        refine AWp.mask [true, true, true] rfl ?_
        simp only [go_sem]
        refine AWp.rk fun K21 hK21 => ?_
        try simp only [go_sem, wob, icast, fb2, fb3, fb4, ft0, ft1]
        (repeat (with_reducible refine And.intro ?_ ?_; (first | omega | (intro _; omega) | decide | (exact nfB) | (intro _; exact nfB) | (intro hg; refine ⟨hg, ?_⟩; omega) | (simp; done) | (simp; omega) | (intro hg; simp at hg; done) | (intro hg; simp at hg ⊢; first | omega | exact hg | grind))))
        refine hK21 _ _ ?_
        try clear hK21 K21
        refine blkQ_n (thenQ_n ?_)
        refine EndS.mk [true, true, true] [] [] [] [b4, b3, b2] [t1] rfl ?_ ?_
        · (try simp only [go_sem, wob, icast, fb2, fb3, fb4, ft0, ft1]) <;> try rfl
        refine .e ⟨_, ?_, (I12 + 1), t1, (Y ++ [a10]), rfl, ?_, ?_, ?_, ?_, ?_⟩
        · first | omega | (simp; omega) | (grind)
        · (try simp only [go_sem, wob, icast, fb2, fb3, fb4, ft0, ft1]) <;> first | exact ⟨rfl⟩ | (constructor; simp; done)
        · (try simp only [go_sem, wob, icast, fb2, fb3, fb4, ft0, ft1]) <;> first | exact ⟨rfl⟩ | (constructor; simp [wob, adsD, adD]; done)
        · omega
        · simp; omega
        · rw [← h3, list_more hq hsk hd]; cases listS (s.drop (I12 + 1)) <;> simp
end Go.Proofs.YthhfbolhlbgbgaaDoor

namespace Go.Proofs.YthhfbolhlbgbgaaDoor
set_option linter.unusedSimpArgs false
set_option linter.unusedVariables false
theorem adsD_get (l : List Ad) (i : Nat) (d : List D) (h : i < l.length) : (adsD l).getD i d = adD (l[i]'h) := map_getD adD _ _ _ h
theorem listOf_none (T : Tbl) (hL : LibT T) (s : Tx) (hs : s.length ≤ 4096) (h : listS s = none) : PC Tryd.prog T 93 [.d (.str s)] (.tup [.d (.slc 2 []), .d (.bool false)]) := by
  have := listOf_c T hL s hs
  rw [h] at this; exact this
theorem listOf_some (T : Tbl) (hL : LibT T) (s : Tx) (hs : s.length ≤ 4096) (l : List Ad) (h : listS s = some l) : PC Tryd.prog T 93 [.d (.str s)] (.tup [.d (.slc 2 (adsD l)), .d (.bool true)]) := by
  have := listOf_c T hL s hs
  rw [h] at this; exact this
theorem List_c (T : Tbl) (hL : LibT T) (s : Tx) : PC Tryd.prog T 98 [.d (.str s)] (adsV (listR s)) := PC.of_ac (List_a T hL s) (by simp [adsV, LeA, LeL, LeD])
theorem listR_len (s : Tx) : (listR s).1.length ≤ 4096 := by
  unfold listR
  split
  · simp
  · split
    · simp
    · split
      · simp
      · rename_i l h; simp; omega
end Go.Proofs.YthhfbolhlbgbgaaDoor

namespace Go.Proofs.YthhfbolhlbgbgaaDoor
set_option linter.unusedSimpArgs false
set_option linter.unusedVariables false
def onD (p : Prop) [Decidable p] (t : Tx) : Tx := if p then t else []
def onI (p : Prop) [Decidable p] (n : Int) : Int := if p then n else 0
/-- what its kind has -/
def Ent.cl (x : Ent) : Ent := ⟨x.kind, onD (x.kind ≠ 6) x.box, onI (x.kind = 3 ∨ x.kind = 5) x.uid, onI (x.kind = 2 ∨ x.kind = 3) x.flags, onD (x.kind = 5 ∨ x.kind = 6) x.dest, onD (x.kind = 2 ∨ x.kind = 6) x.text⟩
/-- has it what its kind has not? -/
def formB (x : Ent) : Bool := ((((decide (x.kind = 6) && !decide (x.box = [])) || ((!decide (x.kind = 6) && !decide (x.kind = 5)) && !decide (x.dest = []))) || ((!decide (x.kind = 6) && !decide (x.kind = 2)) && !decide (x.text = []))) || ((!decide (x.kind = 5) && !decide (x.kind = 3)) && !decide (x.uid = 0))) || ((!decide (x.kind = 2) && !decide (x.kind = 3)) && !decide (x.flags = 0))
def eqE (x y : Ent) : Bool := decide (x.kind = y.kind) && (decide (x.box = y.box) && (decide (x.uid = y.uid) && (decide (x.flags = y.flags) && (decide (x.dest = y.dest) && decide (x.text = y.text)))))
theorem onD_eq {p : Prop} [Decidable p] {t : Tx} : (t = onD p t) ↔ (p ∨ t = []) := by
  unfold onD; split <;> simp [*]
theorem onI_eq {p : Prop} [Decidable p] {t : Int} : (t = onI p t) ↔ (p ∨ t = 0) := by
  unfold onI; split <;> simp [*]
theorem form_eq (x : Ent) (h : 1 ≤ x.kind ∧ x.kind ≤ 6) : eqE x x.cl = !formB x := by
  rw [Bool.eq_iff_iff]
  simp only [eqE, Ent.cl, Bool.and_eq_true, decide_eq_true_eq, onD_eq, onI_eq, Bool.not_eq_true', formB, Bool.or_eq_false_iff, Bool.and_eq_false_iff, decide_eq_false_iff_not, Bool.not_eq_false']
  have hk : x.kind = 1 ∨ x.kind = 2 ∨ x.kind = 3 ∨ x.kind = 4 ∨ x.kind = 5 ∨ x.kind = 6 := by omega
  rcases hk with e | e | e | e | e | e <;> simp [e] <;> grind
def destE (t : Tx) : Int := if 100 < t.length then 3 else match listS t with | some [_] => 0 | _ => 3
/-- what is wrong with an entry -/
def entE (x : Ent) : Int :=
  if ¬ (1 ≤ x.kind ∧ x.kind ≤ 6) then 2
  else if formB x = true then 3
  else if x.flags < 0 ∨ 31 < x.flags ∨ x.uid < 0 ∨ 1048576 < x.uid then 6
  else if 2000 < x.text.length then 1
  else if x.kind = 6 then destE x.dest
  else if nameE x.box ≠ 0 then nameE x.box
  else if x.kind = 5 then nameE x.dest else 0
theorem entE_2 {x : Ent} (h : ¬ (1 ≤ x.kind ∧ x.kind ≤ 6)) : entE x = 2 := if_pos h
theorem entE_3 {x : Ent} (h : 1 ≤ x.kind ∧ x.kind ≤ 6) (h2 : formB x = true) : entE x = 3 := by unfold entE; rw [if_neg (by omega), if_pos h2]
theorem entE_6 {x : Ent} (h : 1 ≤ x.kind ∧ x.kind ≤ 6) (h2 : formB x = false) (h3 : x.flags < 0 ∨ 31 < x.flags ∨ x.uid < 0 ∨ 1048576 < x.uid) : entE x = 6 := by unfold entE; rw [if_neg (by omega), if_neg (by simp [h2]), if_pos h3]
theorem entE_t {x : Ent} (h : 1 ≤ x.kind ∧ x.kind ≤ 6) (h2 : formB x = false) (h3 : ¬ (x.flags < 0 ∨ 31 < x.flags ∨ x.uid < 0 ∨ 1048576 < x.uid)) : entE x = if 2000 < x.text.length then 1 else if x.kind = 6 then destE x.dest else if nameE x.box ≠ 0 then nameE x.box else if x.kind = 5 then nameE x.dest else 0 := by unfold entE; rw [if_neg (by omega), if_neg (by simp [h2]), if_neg h3]
theorem destE_big {t : Tx} (h : 100 < t.length) : destE t = 3 := if_pos h
theorem destE_some {t : Tx} {l : List Ad} (h : ¬ 100 < t.length) (h2 : listS t = some l) : destE t = if l.length = 1 then 0 else 3 := by
  unfold destE
  rw [if_neg h, h2]
  match l with
  | [] => rfl
  | [a] => rfl
  | a :: c :: l => simp
theorem destE_none {t : Tx} (h : ¬ 100 < t.length) (h2 : listS t = none) : destE t = 3 := by
  unfold destE
  rw [if_neg h, h2]
theorem destE_R {t : Tx} (h : ¬ 100 < t.length) : destE t = if (listR t).2 = 0 ∧ (listR t).1.length = 1 then 0 else 3 := by
  cases h2 : listS t with
  | none => rw [destE_none h h2, listR_no (by omega) h2]; simp
  | some l =>
    rw [destE_some h h2]
    by_cases hl : 20 < l.length
    · rw [listR_full (by omega) h2 hl, if_neg (by omega)]; simp
    · rw [listR_ok (by omega) h2 hl]; simp
theorem destE_t {t : Tx} (h : (¬ (listR t).2 = 0 ∨ ¬ ((listR t).1.length : Int) = 1) ∨ 100 < (t.length : Int)) : destE t = 3 := by
  by_cases hb : 100 < t.length
  · exact destE_big hb
  · rw [destE_R hb, if_neg]
    rintro ⟨h1, h2⟩
    rcases h with (h | h) | h
    · exact h h1
    · exact h (by omega)
    · exact hb (by omega)
theorem destE_f {t : Tx} (h : ((listR t).2 = 0 ∧ ((listR t).1.length : Int) = 1) ∧ (t.length : Int) ≤ 100) : destE t = 0 := by
  rw [destE_R (by omega), if_pos ⟨h.1.1, by omega⟩]
theorem form_t {x : Ent} (hk : 1 ≤ x.kind ∧ x.kind ≤ 6) (h : ¬ (x.kind = x.cl.kind ∧ x.box = x.cl.box ∧ x.uid = x.cl.uid ∧ x.flags = x.cl.flags ∧ x.dest = x.cl.dest ∧ x.text = x.cl.text)) : formB x = true := by
  have := form_eq x hk
  cases e : formB x with
  | true => rfl
  | false =>
    rw [e] at this
    simp only [eqE, Bool.and_eq_true, decide_eq_true_eq, Bool.not_false] at this
    exact absurd this h
theorem form_f {x : Ent} (hk : 1 ≤ x.kind ∧ x.kind ≤ 6) (h : x.kind = x.cl.kind ∧ x.box = x.cl.box ∧ x.uid = x.cl.uid ∧ x.flags = x.cl.flags ∧ x.dest = x.cl.dest ∧ x.text = x.cl.text) : formB x = false := by
  have := form_eq x hk
  cases e : formB x with
  | false => rfl
  | true =>
    rw [e] at this
    obtain ⟨h1, h2, h3, h4, h5, h6⟩ := h
    simp [eqE, ← h1, ← h2, ← h3, ← h4, ← h5, ← h6] at this
set_option maxRecDepth 4000 in
set_option maxHeartbeats 1000000 in
theorem Form_c (T : Tbl) (hL : LibT T) (x : Ent) (sb : x.box.length ≤ 9223372036854775807) (sd : x.dest.length ≤ 9223372036854775807) (st : x.text.length ≤ 9223372036854775807) : PC Tryd.prog T 67 [.agg (entA x)] (.d (.int .i64 (entE x))) := by
  refine ⟨Tryd.call67, PCall.enterS Tryd.func67 rfl Tryd.ntmps67 rfl fun hb => ?_⟩
  simp only [go_sem, Tryd.results67]
  refine AWp.rs fun K1 hK1 => ?_
  try simp only [go_sem, icast, adsV]
  (repeat (with_reducible refine And.intro ?_ ?_; (first | omega | (intro _; omega) | decide | (exact nfB) | (intro _; exact nfB) | (intro hg; refine ⟨hg, ?_⟩; omega) | (simp; done) | (simp; omega) | (intro hg; simp at hg; done) | (intro hg; simp at hg ⊢; first | omega | exact hg | grind))))
  intro b1
  first | intro fb1 | have fb1 := True.intro
  try simp only [freshL] at fb1
  try simp only [go_sem, icast, adsV, fb1]
  (repeat (with_reducible refine And.intro ?_ ?_; (first | omega | (intro _; omega) | decide | (exact nfB) | (intro _; exact nfB) | (intro hg; refine ⟨hg, ?_⟩; omega) | (simp; done) | (simp; omega) | (intro hg; simp at hg; done) | (intro hg; simp at hg ⊢; first | omega | exact hg | grind))))
  refine hK1 _ _ ?_
  try clear hK1 K1
  refine AWp.rs fun K2 hK2 => ?_
  try simp only [go_sem, icast, adsV, fb1]
  (repeat (with_reducible refine And.intro ?_ ?_; (first | omega | (intro _; omega) | decide | (exact nfB) | (intro _; exact nfB) | (intro hg; refine ⟨hg, ?_⟩; omega) | (simp; done) | (simp; omega) | (intro hg; simp at hg; done) | (intro hg; simp at hg ⊢; first | omega | exact hg | grind))))
  intro b3
  first | intro fb3 | have fb3 := True.intro
  try simp only [freshL] at fb3
  try simp only [go_sem, icast, adsV, fb1, fb3]
  (repeat (with_reducible refine And.intro ?_ ?_; (first | omega | (intro _; omega) | decide | (exact nfB) | (intro _; exact nfB) | (intro hg; refine ⟨hg, ?_⟩; omega) | (simp; done) | (simp; omega) | (intro hg; simp at hg; done) | (intro hg; simp at hg ⊢; first | omega | exact hg | grind))))
  refine hK2 _ _ ?_
  try clear hK2 K2
  refine AWp.mask [false, true, false, true] rfl ?_
  simp only [go_sem]
  refine AWp.seq fun K3 hK3 => ?_
  refine AWp.rs fun K4 hK4 => ?_
  try simp only [go_sem, icast, adsV, fb1, fb3]
  (repeat (with_reducible refine And.intro ?_ ?_; (first | omega | (intro _; omega) | decide | (exact nfB) | (intro _; exact nfB) | (intro hg; refine ⟨hg, ?_⟩; omega) | (simp; done) | (simp; omega) | (intro hg; simp at hg; done) | (intro hg; simp at hg ⊢; first | omega | exact hg | grind))))
  refine hK4 _ _ ?_
  try clear hK4 K4
  refine AWp.mask [true, true, false, true] rfl ?_
  simp only [go_sem]
  refine AWp.joinK hK3 [true, true] (fun lc hc => EqS lc [] ∧ EqS hc (⟨[(b3, ⟨6, 1, [entA x.cl]⟩), (b1, ⟨6, 1, [entA x]⟩)], []⟩) ∧ (1 ≤ x.kind ∧ x.kind ≤ 6)) ?_ ?_
  · skip
    refine AWp.block ?_
    refine AWp.seq fun K5 hK5 => ?_
    refine AWp.rs fun K6 hK6 => ?_
    try simp only [go_sem, icast, adsV, fb1, fb3]
    (repeat (with_reducible refine And.intro ?_ ?_; (first | omega | (intro _; omega) | decide | (exact nfB) | (intro _; exact nfB) | (intro hg; refine ⟨hg, ?_⟩; omega) | (simp; done) | (simp; omega) | (intro hg; simp at hg; done) | (intro hg; simp at hg ⊢; first | omega | exact hg | grind))))
    refine hK6 _ _ ?_
    try clear hK6 K6
    refine AWp.mask [true, true, true, true] rfl ?_
    simp only [go_sem]
    apply AWp.boK (z := (_ || _)) hK5 [true, true, true] 12
    · skip
      refine AWp.cond _ rfl (fun hc0 => ?_) (fun hc0 => ?_)
      rotate_left
      · skip
        refine AWp.rk fun K7 hK7 => ?_
        try simp only [go_sem, icast, adsV, fb1, fb3]
        (repeat (with_reducible refine And.intro ?_ ?_; (first | omega | (intro _; omega) | decide | (exact nfB) | (intro _; exact nfB) | (intro hg; refine ⟨hg, ?_⟩; omega) | (simp; done) | (simp; omega) | (intro hg; simp at hg; done) | (intro hg; simp at hg ⊢; first | omega | exact hg | grind))))
        refine hK7 _ _ ?_
        try clear hK7 K7
        refine thenQ_n ?_
        refine EndS.mkr [true, true, true] [false, false, false, true] rfl ?_ ?_
        · (try simp only [go_sem, icast, adsV, fb1, fb3]) <;> try rfl
        exact .e ⟨EqS.bo (or_f hc0 rfl), ⟨rfl⟩⟩
      · skip
        refine AWp.skip ?_
        refine thenQ_n ?_
        refine EndS.mkr [true, true, true] [false, false, false, true] rfl ?_ ?_
        · (try simp only [go_sem, icast, adsV, fb1, fb3]) <;> try rfl
        exact .e ⟨EqS.bo (or_t hc0), ⟨rfl⟩⟩
    · skip
      simp only [go_sem]
      refine AWp.cond _ rfl (fun hc1 => ?_) (fun hc1 => ?_)
      · skip
        try simp only [decide_eq_true_eq, decide_eq_false_iff_not, Bool.not_eq_true', Bool.not_eq_false', Bool.and_eq_true, Bool.or_eq_true, Bool.and_eq_false_iff, Bool.or_eq_false_iff, Int.not_lt, Int.not_le, beq_iff_eq, beq_eq_false_iff_ne, ne_eq, Bool.not_eq_true, Bool.not_eq_false] at hc1
        have e3 : ¬ x.kind = 6 ∧ ¬ x.kind = 5 ∧ ¬ x.kind = 3 ∧ ¬ x.kind = 2 := by omega
        refine AWp.rk fun K8 hK8 => ?_
        try simp only [go_sem, icast, adsV, fb1, fb3]
        (repeat (with_reducible refine And.intro ?_ ?_; (first | omega | (intro _; omega) | decide | (exact nfB) | (intro _; exact nfB) | (intro hg; refine ⟨hg, ?_⟩; omega) | (simp; done) | (simp; omega) | (intro hg; simp at hg; done) | (intro hg; simp at hg ⊢; first | omega | exact hg | grind))))
        refine hK8 _ _ ?_
        try clear hK8 K8
        refine blkQ_n (thenQ_n ?_)
        refine EndS.mk [true, true] [] [] [] [b3, b1] [] rfl ?_ ?_
        · (try simp only [go_sem, icast, adsV, fb1, fb3]) <;> try rfl
        refine .e ⟨?_, ?_, ?_⟩
        · (try simp only [go_sem, icast, adsV, fb1, fb3]) <;> first | exact ⟨rfl⟩ | (constructor; grind)
        · (try simp only [go_sem, icast, adsV, fb1, fb3]) <;> first | exact ⟨rfl⟩ | (constructor; simp [Ent.cl, onD, onI, entA, *]; done)
        all_goals (first | omega | grind)
      · skip
        try simp only [decide_eq_true_eq, decide_eq_false_iff_not, Bool.not_eq_true', Bool.not_eq_false', Bool.and_eq_true, Bool.or_eq_true, Bool.and_eq_false_iff, Bool.or_eq_false_iff, Int.not_lt, Int.not_le, beq_iff_eq, beq_eq_false_iff_ne, ne_eq, Bool.not_eq_true, Bool.not_eq_false] at hc1
        refine AWp.rs fun K9 hK9 => ?_
        try simp only [go_sem, icast, adsV, fb1, fb3]
        (repeat (with_reducible refine And.intro ?_ ?_; (first | omega | (intro _; omega) | decide | (exact nfB) | (intro _; exact nfB) | (intro hg; refine ⟨hg, ?_⟩; omega) | (simp; done) | (simp; omega) | (intro hg; simp at hg; done) | (intro hg; simp at hg ⊢; first | omega | exact hg | grind))))
        refine hK9 _ _ ?_
        try clear hK9 K9
        refine AWp.cond _ rfl (fun hc2 => ?_) (fun hc2 => ?_)
        · skip
          try simp only [decide_eq_true_eq, decide_eq_false_iff_not, Bool.not_eq_true', Bool.not_eq_false', Bool.and_eq_true, Bool.or_eq_true, Bool.and_eq_false_iff, Bool.or_eq_false_iff, Int.not_lt, Int.not_le, beq_iff_eq, beq_eq_false_iff_ne, ne_eq, Bool.not_eq_true, Bool.not_eq_false] at hc2
          refine AWp.tree true (.seg 0 (.seg 1 (.seg 2 (.seg 4 (.seg 6 (.many (.alt 3 (.many (.alt 5 (.seg 7 (.seg 8 (.seg 9 (.seg 10 (.seg 11 (.done)))))) (.alt 7 (.seg 8 (.many (.alt 5 (.seg 9 (.seg 10 (.seg 11 (.done)))) (.alt 9 (.seg 5 (.seg 10 (.seg 11 (.done)))) (.nil))))) (.nil)))) (.alt 5 (.many (.alt 3 (.seg 7 (.seg 8 (.seg 9 (.seg 10 (.seg 11 (.done)))))) (.alt 7 (.seg 3 (.seg 8 (.seg 9 (.seg 10 (.seg 11 (.done)))))) (.nil)))) (.alt 7 (.seg 3 (.seg 8 (.many (.alt 5 (.seg 9 (.seg 10 (.seg 11 (.done)))) (.alt 9 (.seg 5 (.seg 10 (.seg 11 (.done)))) (.nil)))))) (.nil)))))))))) rfl (by kernel_rfl) fun K10 hK10 => ?_
          try simp only [go_sem, icast, adsV, fb1, fb3]
          (repeat (with_reducible refine And.intro ?_ ?_; (first | omega | (intro _; omega) | decide | (exact nfB) | (intro _; exact nfB) | (intro hg; refine ⟨hg, ?_⟩; omega) | (simp; done) | (simp; omega) | (intro hg; simp at hg; done) | (intro hg; simp at hg ⊢; first | omega | exact hg | grind))))
          refine hK10 _ _ ?_
          try clear hK10 K10
          refine blkQ_n (thenQ_n ?_)
          refine EndS.mk [true, true] [] [] [] [b3, b1] [] rfl ?_ ?_
          · (try simp only [go_sem, icast, adsV, fb1, fb3]) <;> try rfl
          refine .e ⟨?_, ?_, ?_⟩
          · (try simp only [go_sem, icast, adsV, fb1, fb3]) <;> first | exact ⟨rfl⟩ | (constructor; grind)
          · (try simp only [go_sem, icast, adsV, fb1, fb3]) <;> first | exact ⟨rfl⟩ | (constructor; simp [Ent.cl, onD, onI, entA, *]; done)
          all_goals (first | omega | grind)
        · skip
          try simp only [decide_eq_true_eq, decide_eq_false_iff_not, Bool.not_eq_true', Bool.not_eq_false', Bool.and_eq_true, Bool.or_eq_true, Bool.and_eq_false_iff, Bool.or_eq_false_iff, Int.not_lt, Int.not_le, beq_iff_eq, beq_eq_false_iff_ne, ne_eq, Bool.not_eq_true, Bool.not_eq_false] at hc2
          refine AWp.rs fun K11 hK11 => ?_
          try simp only [go_sem, icast, adsV, fb1, fb3]
          (repeat (with_reducible refine And.intro ?_ ?_; (first | omega | (intro _; omega) | decide | (exact nfB) | (intro _; exact nfB) | (intro hg; refine ⟨hg, ?_⟩; omega) | (simp; done) | (simp; omega) | (intro hg; simp at hg; done) | (intro hg; simp at hg ⊢; first | omega | exact hg | grind))))
          refine hK11 _ _ ?_
          try clear hK11 K11
          refine AWp.mask [true, true, true, false, false, false, true] rfl ?_
          simp only [go_sem]
          refine AWp.cond _ rfl (fun hc3 => ?_) (fun hc3 => ?_)
          · skip
            try simp only [decide_eq_true_eq, decide_eq_false_iff_not, Bool.not_eq_true', Bool.not_eq_false', Bool.and_eq_true, Bool.or_eq_true, Bool.and_eq_false_iff, Bool.or_eq_false_iff, Int.not_lt, Int.not_le, beq_iff_eq, beq_eq_false_iff_ne, ne_eq, Bool.not_eq_true, Bool.not_eq_false] at hc3
            refine AWp.tree true (.seg 0 (.seg 1 (.seg 2 (.seg 4 (.seg 6 (.many (.alt 3 (.many (.alt 5 (.seg 7 (.seg 8 (.seg 9 (.seg 10 (.seg 11 (.done)))))) (.alt 7 (.seg 8 (.many (.alt 5 (.seg 9 (.seg 10 (.seg 11 (.done)))) (.alt 9 (.seg 5 (.seg 10 (.seg 11 (.done)))) (.nil))))) (.nil)))) (.alt 5 (.many (.alt 3 (.seg 7 (.seg 8 (.seg 9 (.seg 10 (.seg 11 (.done)))))) (.alt 7 (.seg 3 (.seg 8 (.seg 9 (.seg 10 (.seg 11 (.done)))))) (.nil)))) (.alt 7 (.seg 3 (.seg 8 (.many (.alt 5 (.seg 9 (.seg 10 (.seg 11 (.done)))) (.alt 9 (.seg 5 (.seg 10 (.seg 11 (.done)))) (.nil)))))) (.nil)))))))))) rfl (by kernel_rfl) fun K12 hK12 => ?_
            try simp only [go_sem, icast, adsV, fb1, fb3]
            (repeat (with_reducible refine And.intro ?_ ?_; (first | omega | (intro _; omega) | decide | (exact nfB) | (intro _; exact nfB) | (intro hg; refine ⟨hg, ?_⟩; omega) | (simp; done) | (simp; omega) | (intro hg; simp at hg; done) | (intro hg; simp at hg ⊢; first | omega | exact hg | grind))))
            refine hK12 _ _ ?_
            try clear hK12 K12
            refine blkQ_n (thenQ_n ?_)
            refine EndS.mk [true, true] [] [] [] [b3, b1] [] rfl ?_ ?_
            · (try simp only [go_sem, icast, adsV, fb1, fb3]) <;> try rfl
            refine .e ⟨?_, ?_, ?_⟩
            · (try simp only [go_sem, icast, adsV, fb1, fb3]) <;> first | exact ⟨rfl⟩ | (constructor; grind)
            · (try simp only [go_sem, icast, adsV, fb1, fb3]) <;> first | exact ⟨rfl⟩ | (constructor; simp [Ent.cl, onD, onI, entA, *]; done)
            all_goals (first | omega | grind)
          · skip
            try simp only [decide_eq_true_eq, decide_eq_false_iff_not, Bool.not_eq_true', Bool.not_eq_false', Bool.and_eq_true, Bool.or_eq_true, Bool.and_eq_false_iff, Bool.or_eq_false_iff, Int.not_lt, Int.not_le, beq_iff_eq, beq_eq_false_iff_ne, ne_eq, Bool.not_eq_true, Bool.not_eq_false] at hc3
            refine AWp.rs fun K13 hK13 => ?_
            try simp only [go_sem, icast, adsV, fb1, fb3]
            (repeat (with_reducible refine And.intro ?_ ?_; (first | omega | (intro _; omega) | decide | (exact nfB) | (intro _; exact nfB) | (intro hg; refine ⟨hg, ?_⟩; omega) | (simp; done) | (simp; omega) | (intro hg; simp at hg; done) | (intro hg; simp at hg ⊢; first | omega | exact hg | grind))))
            refine hK13 _ _ ?_
            try clear hK13 K13
            refine AWp.cond _ rfl (fun hc4 => ?_) (fun hc4 => ?_)
            · skip
              try simp only [decide_eq_true_eq, decide_eq_false_iff_not, Bool.not_eq_true', Bool.not_eq_false', Bool.and_eq_true, Bool.or_eq_true, Bool.and_eq_false_iff, Bool.or_eq_false_iff, Int.not_lt, Int.not_le, beq_iff_eq, beq_eq_false_iff_ne, ne_eq, Bool.not_eq_true, Bool.not_eq_false] at hc4
              refine AWp.tree true (.seg 0 (.seg 1 (.seg 2 (.seg 4 (.seg 6 (.many (.alt 3 (.many (.alt 5 (.seg 7 (.seg 8 (.seg 9 (.seg 10 (.seg 11 (.done)))))) (.alt 7 (.seg 8 (.many (.alt 5 (.seg 9 (.seg 10 (.seg 11 (.done)))) (.alt 9 (.seg 5 (.seg 10 (.seg 11 (.done)))) (.nil))))) (.nil)))) (.alt 5 (.many (.alt 3 (.seg 7 (.seg 8 (.seg 9 (.seg 10 (.seg 11 (.done)))))) (.alt 7 (.seg 3 (.seg 8 (.seg 9 (.seg 10 (.seg 11 (.done)))))) (.nil)))) (.alt 7 (.seg 3 (.seg 8 (.many (.alt 5 (.seg 9 (.seg 10 (.seg 11 (.done)))) (.alt 9 (.seg 5 (.seg 10 (.seg 11 (.done)))) (.nil)))))) (.nil)))))))))) rfl (by kernel_rfl) fun K14 hK14 => ?_
              try simp only [go_sem, icast, adsV, fb1, fb3]
              (repeat (with_reducible refine And.intro ?_ ?_; (first | omega | (intro _; omega) | decide | (exact nfB) | (intro _; exact nfB) | (intro hg; refine ⟨hg, ?_⟩; omega) | (simp; done) | (simp; omega) | (intro hg; simp at hg; done) | (intro hg; simp at hg ⊢; first | omega | exact hg | grind))))
              refine hK14 _ _ ?_
              try clear hK14 K14
              refine blkQ_n (thenQ_n ?_)
              refine EndS.mk [true, true] [] [] [] [b3, b1] [] rfl ?_ ?_
              · (try simp only [go_sem, icast, adsV, fb1, fb3]) <;> try rfl
              refine .e ⟨?_, ?_, ?_⟩
              · (try simp only [go_sem, icast, adsV, fb1, fb3]) <;> first | exact ⟨rfl⟩ | (constructor; grind)
              · (try simp only [go_sem, icast, adsV, fb1, fb3]) <;> first | exact ⟨rfl⟩ | (constructor; simp [Ent.cl, onD, onI, entA, *]; done)
              all_goals (first | omega | grind)
            · skip
              try simp only [decide_eq_true_eq, decide_eq_false_iff_not, Bool.not_eq_true', Bool.not_eq_false', Bool.and_eq_true, Bool.or_eq_true, Bool.and_eq_false_iff, Bool.or_eq_false_iff, Int.not_lt, Int.not_le, beq_iff_eq, beq_eq_false_iff_ne, ne_eq, Bool.not_eq_true, Bool.not_eq_false] at hc4
              refine AWp.rs fun K15 hK15 => ?_
              try simp only [go_sem, icast, adsV, fb1, fb3]
              (repeat (with_reducible refine And.intro ?_ ?_; (first | omega | (intro _; omega) | decide | (exact nfB) | (intro _; exact nfB) | (intro hg; refine ⟨hg, ?_⟩; omega) | (simp; done) | (simp; omega) | (intro hg; simp at hg; done) | (intro hg; simp at hg ⊢; first | omega | exact hg | grind))))
              refine hK15 _ _ ?_
              try clear hK15 K15
              refine AWp.mask [true, true, false, false, false, false, true] rfl ?_
              simp only [go_sem]
              refine AWp.cond _ rfl (fun hc5 => ?_) (fun hc5 => ?_)
              · skip
                try simp only [decide_eq_true_eq, decide_eq_false_iff_not, Bool.not_eq_true', Bool.not_eq_false', Bool.and_eq_true, Bool.or_eq_true, Bool.and_eq_false_iff, Bool.or_eq_false_iff, Int.not_lt, Int.not_le, beq_iff_eq, beq_eq_false_iff_ne, ne_eq, Bool.not_eq_true, Bool.not_eq_false] at hc5
                refine AWp.tree true (.seg 0 (.seg 1 (.seg 2 (.seg 4 (.many (.alt 3 (.seg 5 (.seg 6 (.seg 7 (.done)))) (.alt 5 (.seg 3 (.seg 6 (.seg 7 (.done)))) (.nil)))))))) rfl (by kernel_rfl) fun K16 hK16 => ?_
                try simp only [go_sem, icast, adsV, fb1, fb3]
                (repeat (with_reducible refine And.intro ?_ ?_; (first | omega | (intro _; omega) | decide | (exact nfB) | (intro _; exact nfB) | (intro hg; refine ⟨hg, ?_⟩; omega) | (simp; done) | (simp; omega) | (intro hg; simp at hg; done) | (intro hg; simp at hg ⊢; first | omega | exact hg | grind))))
                refine hK16 _ _ ?_
                try clear hK16 K16
                refine blkQ_n (thenQ_n ?_)
                refine EndS.mk [true, true] [] [] [] [b3, b1] [] rfl ?_ ?_
                · (try simp only [go_sem, icast, adsV, fb1, fb3]) <;> try rfl
                refine .e ⟨?_, ?_, ?_⟩
                · (try simp only [go_sem, icast, adsV, fb1, fb3]) <;> first | exact ⟨rfl⟩ | (constructor; grind)
                · (try simp only [go_sem, icast, adsV, fb1, fb3]) <;> first | exact ⟨rfl⟩ | (constructor; simp [Ent.cl, onD, onI, entA, *]; done)
                all_goals (first | omega | grind)
              · skip
                try simp only [decide_eq_true_eq, decide_eq_false_iff_not, Bool.not_eq_true', Bool.not_eq_false', Bool.and_eq_true, Bool.or_eq_true, Bool.and_eq_false_iff, Bool.or_eq_false_iff, Int.not_lt, Int.not_le, beq_iff_eq, beq_eq_false_iff_ne, ne_eq, Bool.not_eq_true, Bool.not_eq_false] at hc5
                refine AWp.rs fun K17 hK17 => ?_
                try simp only [go_sem, icast, adsV, fb1, fb3]
                (repeat (with_reducible refine And.intro ?_ ?_; (first | omega | (intro _; omega) | decide | (exact nfB) | (intro _; exact nfB) | (intro hg; refine ⟨hg, ?_⟩; omega) | (simp; done) | (simp; omega) | (intro hg; simp at hg; done) | (intro hg; simp at hg ⊢; first | omega | exact hg | grind))))
                refine hK17 _ _ ?_
                try clear hK17 K17
                refine AWp.ret ?_
                try simp only [go_sem, icast, adsV, fb1, fb3]
                rw [entE_2 (by omega)]
  · rintro _ _ ⟨⟨rfl⟩, ⟨rfl⟩, hk⟩
    simp only [go_sem]
    refine AWp.seq fun K18 hK18 => ?_
    refine AWp.rs fun K19 hK19 => ?_
    try simp only [go_sem, icast, adsV, fb1, fb3]
    (repeat (with_reducible refine And.intro ?_ ?_; (first | omega | (intro _; omega) | decide | (exact nfB) | (intro _; exact nfB) | (intro hg; refine ⟨hg, ?_⟩; omega) | (simp; done) | (simp; omega) | (intro hg; simp at hg; done) | (intro hg; simp at hg ⊢; first | omega | exact hg | grind))))
    refine hK19 _ _ ?_
    try clear hK19 K19
    refine AWp.cond _ rfl (fun hc6 => ?_) (fun hc6 => ?_)
    · skip
      try simp only [decide_eq_true_eq, decide_eq_false_iff_not, Bool.not_eq_true', Bool.not_eq_false', Bool.and_eq_true, Bool.or_eq_true, Bool.and_eq_false_iff, Bool.or_eq_false_iff, Int.not_lt, Int.not_le, beq_iff_eq, beq_eq_false_iff_ne, ne_eq, Bool.not_eq_true, Bool.not_eq_false] at hc6
      have hf := form_t hk (fun hh => by simp [hh] at hc6)
      refine AWp.rs fun K20 hK20 => ?_
      try simp only [go_sem, icast, adsV, fb1, fb3]
      (repeat (with_reducible refine And.intro ?_ ?_; (first | omega | (intro _; omega) | decide | (exact nfB) | (intro _; exact nfB) | (intro hg; refine ⟨hg, ?_⟩; omega) | (simp; done) | (simp; omega) | (intro hg; simp at hg; done) | (intro hg; simp at hg ⊢; first | omega | exact hg | grind))))
      refine hK20 _ _ ?_
      try clear hK20 K20
      refine AWp.mask [false, true] rfl ?_
      simp only [go_sem]
      refine AWp.ret ?_
      try simp only [go_sem, icast, adsV, fb1, fb3]
      rw [entE_3 hk hf]
    · skip
      try simp only [decide_eq_true_eq, decide_eq_false_iff_not, Bool.not_eq_true', Bool.not_eq_false', Bool.and_eq_true, Bool.or_eq_true, Bool.and_eq_false_iff, Bool.or_eq_false_iff, Int.not_lt, Int.not_le, beq_iff_eq, beq_eq_false_iff_ne, ne_eq, Bool.not_eq_true, Bool.not_eq_false] at hc6
      have hf := form_f hk (by simpa [and_assoc] using hc6)
      refine AWp.skip ?_
      refine thenQ_n ?_
      refine hK18 _ _ ?_
      try clear hK18 K18
      refine AWp.mask [true] rfl ?_
      simp only [go_sem]
      refine AWp.seq fun K21 hK21 => ?_
      refine AWp.rs fun K22 hK22 => ?_
      try simp only [go_sem, icast, adsV, fb1, fb3]
      (repeat (with_reducible refine And.intro ?_ ?_; (first | omega | (intro _; omega) | decide | (exact nfB) | (intro _; exact nfB) | (intro hg; refine ⟨hg, ?_⟩; omega) | (simp; done) | (simp; omega) | (intro hg; simp at hg; done) | (intro hg; simp at hg ⊢; first | omega | exact hg | grind))))
      refine hK22 _ _ ?_
      try clear hK22 K22
      refine AWp.mask [true, false, false, false, false, false, false, false, false, false, false, false, false, false, false, false, false, false, true] rfl ?_
      simp only [go_sem]
      refine AWp.cond _ rfl (fun hc7 => ?_) (fun hc7 => ?_)
      · skip
        try simp only [decide_eq_true_eq, decide_eq_false_iff_not, Bool.not_eq_true', Bool.not_eq_false', Bool.and_eq_true, Bool.or_eq_true, Bool.and_eq_false_iff, Bool.or_eq_false_iff, Int.not_lt, Int.not_le, beq_iff_eq, beq_eq_false_iff_ne, ne_eq, Bool.not_eq_true, Bool.not_eq_false] at hc7
        refine AWp.rs fun K23 hK23 => ?_
        try simp only [go_sem, icast, adsV, fb1, fb3]
        (repeat (with_reducible refine And.intro ?_ ?_; (first | omega | (intro _; omega) | decide | (exact nfB) | (intro _; exact nfB) | (intro hg; refine ⟨hg, ?_⟩; omega) | (simp; done) | (simp; omega) | (intro hg; simp at hg; done) | (intro hg; simp at hg ⊢; first | omega | exact hg | grind))))
        refine hK23 _ _ ?_
        try clear hK23 K23
        refine AWp.ret ?_
        try simp only [go_sem, icast, adsV, fb1, fb3]
        rw [entE_6 hk hf (by omega)]
      · skip
        try simp only [decide_eq_true_eq, decide_eq_false_iff_not, Bool.not_eq_true', Bool.not_eq_false', Bool.and_eq_true, Bool.or_eq_true, Bool.and_eq_false_iff, Bool.or_eq_false_iff, Int.not_lt, Int.not_le, beq_iff_eq, beq_eq_false_iff_ne, ne_eq, Bool.not_eq_true, Bool.not_eq_false] at hc7
        refine AWp.skip ?_
        refine thenQ_n ?_
        refine hK21 _ _ ?_
        try clear hK21 K21
        refine AWp.seq fun K24 hK24 => ?_
        refine AWp.rs fun K25 hK25 => ?_
        try simp only [go_sem, icast, adsV, fb1, fb3]
        (repeat (with_reducible refine And.intro ?_ ?_; (first | omega | (intro _; omega) | decide | (exact nfB) | (intro _; exact nfB) | (intro hg; refine ⟨hg, ?_⟩; omega) | (simp; done) | (simp; omega) | (intro hg; simp at hg; done) | (intro hg; simp at hg ⊢; first | omega | exact hg | grind))))
        refine hK25 _ _ ?_
        try clear hK25 K25
        refine AWp.mask [true, false, false, false, false, true] rfl ?_
        simp only [go_sem]
        refine AWp.cond _ rfl (fun hc8 => ?_) (fun hc8 => ?_)
        · skip
          try simp only [decide_eq_true_eq, decide_eq_false_iff_not, Bool.not_eq_true', Bool.not_eq_false', Bool.and_eq_true, Bool.or_eq_true, Bool.and_eq_false_iff, Bool.or_eq_false_iff, Int.not_lt, Int.not_le, beq_iff_eq, beq_eq_false_iff_ne, ne_eq, Bool.not_eq_true, Bool.not_eq_false] at hc8
          refine AWp.rs fun K26 hK26 => ?_
          try simp only [go_sem, icast, adsV, fb1, fb3]
          (repeat (with_reducible refine And.intro ?_ ?_; (first | omega | (intro _; omega) | decide | (exact nfB) | (intro _; exact nfB) | (intro hg; refine ⟨hg, ?_⟩; omega) | (simp; done) | (simp; omega) | (intro hg; simp at hg; done) | (intro hg; simp at hg ⊢; first | omega | exact hg | grind))))
          refine hK26 _ _ ?_
          try clear hK26 K26
          refine AWp.ret ?_
          try simp only [go_sem, icast, adsV, fb1, fb3]
          rw [entE_t hk hf (by omega), if_pos (by omega)]
        · skip
          try simp only [decide_eq_true_eq, decide_eq_false_iff_not, Bool.not_eq_true', Bool.not_eq_false', Bool.and_eq_true, Bool.or_eq_true, Bool.and_eq_false_iff, Bool.or_eq_false_iff, Int.not_lt, Int.not_le, beq_iff_eq, beq_eq_false_iff_ne, ne_eq, Bool.not_eq_true, Bool.not_eq_false] at hc8
          refine AWp.skip ?_
          refine thenQ_n ?_
          refine hK24 _ _ ?_
          try clear hK24 K24
          refine AWp.seq fun K27 hK27 => ?_
          refine AWp.rs fun K28 hK28 => ?_
          try simp only [go_sem, icast, adsV, fb1, fb3]
          (repeat (with_reducible refine And.intro ?_ ?_; (first | omega | (intro _; omega) | decide | (exact nfB) | (intro _; exact nfB) | (intro hg; refine ⟨hg, ?_⟩; omega) | (simp; done) | (simp; omega) | (intro hg; simp at hg; done) | (intro hg; simp at hg ⊢; first | omega | exact hg | grind))))
          refine hK28 _ _ ?_
          try clear hK28 K28
          refine AWp.cond _ rfl (fun hc9 => ?_) (fun hc9 => ?_)
          · skip
            try simp only [decide_eq_true_eq, decide_eq_false_iff_not, Bool.not_eq_true', Bool.not_eq_false', Bool.and_eq_true, Bool.or_eq_true, Bool.and_eq_false_iff, Bool.or_eq_false_iff, Int.not_lt, Int.not_le, beq_iff_eq, beq_eq_false_iff_ne, ne_eq, Bool.not_eq_true, Bool.not_eq_false] at hc9
            refine AWp.rs fun K29 hK29 => ?_
            try simp only [go_sem, icast, adsV, fb1, fb3]
            (repeat (with_reducible refine And.intro ?_ ?_; (first | omega | (intro _; omega) | decide | (exact nfB) | (intro _; exact nfB) | (intro hg; refine ⟨hg, ?_⟩; omega) | (simp; done) | (simp; omega) | (intro hg; simp at hg; done) | (intro hg; simp at hg ⊢; first | omega | exact hg | grind))))
            refine DW.pcr rfl rfl rfl rfl (List_c T hL _) rfl rfl ?_
            try simp only [go_sem, icast, adsV, fb1, fb3]
            (repeat (with_reducible refine And.intro ?_ ?_; (first | omega | (intro _; omega) | decide | (exact nfB) | (intro _; exact nfB) | (intro hg; refine ⟨hg, ?_⟩; omega) | (simp; done) | (simp; omega) | (intro hg; simp at hg; done) | (intro hg; simp at hg ⊢; first | omega | exact hg | grind))))
            refine hK29 _ _ ?_
            try clear hK29 K29
            refine AWp.mask [true, true, true] rfl ?_
            simp only [go_sem]
            refine AWp.seq fun K30 hK30 => ?_
            refine AWp.rs fun K31 hK31 => ?_
            try simp only [go_sem, icast, adsV, fb1, fb3]
            (repeat (with_reducible refine And.intro ?_ ?_; (first | omega | (intro _; omega) | decide | (exact nfB) | (intro _; exact nfB) | (intro hg; refine ⟨hg, ?_⟩; omega) | (simp; done) | (simp; omega) | (intro hg; simp at hg; done) | (intro hg; simp at hg ⊢; first | omega | exact hg | grind))))
            refine hK31 _ _ ?_
            try clear hK31 K31
            refine AWp.mask [false, false, false, false, false, false, false, false, false, false, false, false, false, false, false, true] rfl ?_
            simp only [go_sem]
            refine AWp.cond _ rfl (fun hc10 => ?_) (fun hc10 => ?_)
            · skip
              try simp only [decide_eq_true_eq, decide_eq_false_iff_not, Bool.not_eq_true', Bool.not_eq_false', Bool.and_eq_true, Bool.or_eq_true, Bool.and_eq_false_iff, Bool.or_eq_false_iff, Int.not_lt, Int.not_le, beq_iff_eq, beq_eq_false_iff_ne, ne_eq, Bool.not_eq_true, Bool.not_eq_false] at hc10
              refine AWp.rs fun K32 hK32 => ?_
              try simp only [go_sem, icast, adsV, fb1, fb3]
              (repeat (with_reducible refine And.intro ?_ ?_; (first | omega | (intro _; omega) | decide | (exact nfB) | (intro _; exact nfB) | (intro hg; refine ⟨hg, ?_⟩; omega) | (simp; done) | (simp; omega) | (intro hg; simp at hg; done) | (intro hg; simp at hg ⊢; first | omega | exact hg | grind))))
              refine hK32 _ _ ?_
              try clear hK32 K32
              refine AWp.ret ?_
              try simp only [go_sem, icast, adsV, fb1, fb3]
              rw [entE_t hk hf (by omega), if_neg (by omega), if_pos hc9, destE_t hc10]
            · skip
              try simp only [decide_eq_true_eq, decide_eq_false_iff_not, Bool.not_eq_true', Bool.not_eq_false', Bool.and_eq_true, Bool.or_eq_true, Bool.and_eq_false_iff, Bool.or_eq_false_iff, Int.not_lt, Int.not_le, beq_iff_eq, beq_eq_false_iff_ne, ne_eq, Bool.not_eq_true, Bool.not_eq_false] at hc10
              refine AWp.skip ?_
              refine thenQ_n ?_
              refine hK30 _ _ ?_
              try clear hK30 K30
              refine AWp.rs fun K33 hK33 => ?_
              try simp only [go_sem, icast, adsV, fb1, fb3]
              (repeat (with_reducible refine And.intro ?_ ?_; (first | omega | (intro _; omega) | decide | (exact nfB) | (intro _; exact nfB) | (intro hg; refine ⟨hg, ?_⟩; omega) | (simp; done) | (simp; omega) | (intro hg; simp at hg; done) | (intro hg; simp at hg ⊢; first | omega | exact hg | grind))))
              refine hK33 _ _ ?_
              try clear hK33 K33
              refine AWp.ret ?_
              try simp only [go_sem, icast, adsV, fb1, fb3]
              rw [entE_t hk hf (by omega), if_neg (by omega), if_pos hc9, destE_f hc10]
          · skip
            try simp only [decide_eq_true_eq, decide_eq_false_iff_not, Bool.not_eq_true', Bool.not_eq_false', Bool.and_eq_true, Bool.or_eq_true, Bool.and_eq_false_iff, Bool.or_eq_false_iff, Int.not_lt, Int.not_le, beq_iff_eq, beq_eq_false_iff_ne, ne_eq, Bool.not_eq_true, Bool.not_eq_false] at hc9
            refine AWp.skip ?_
            refine thenQ_n ?_
            refine hK27 _ _ ?_
            try clear hK27 K27
            refine AWp.mask [true] rfl ?_
            simp only [go_sem]
            refine AWp.seq fun K34 hK34 => ?_
            refine AWp.rs fun K35 hK35 => ?_
            try simp only [go_sem, icast, adsV, fb1, fb3]
            (repeat (with_reducible refine And.intro ?_ ?_; (first | omega | (intro _; omega) | decide | (exact nfB) | (intro _; exact nfB) | (intro hg; refine ⟨hg, ?_⟩; omega) | (simp; done) | (simp; omega) | (intro hg; simp at hg; done) | (intro hg; simp at hg ⊢; first | omega | exact hg | grind))))
            refine DW.pcr rfl rfl rfl rfl (Name_c T _ (by first | exact sb | exact sd)) rfl rfl ?_
            try simp only [go_sem, icast, adsV, fb1, fb3]
            (repeat (with_reducible refine And.intro ?_ ?_; (first | omega | (intro _; omega) | decide | (exact nfB) | (intro _; exact nfB) | (intro hg; refine ⟨hg, ?_⟩; omega) | (simp; done) | (simp; omega) | (intro hg; simp at hg; done) | (intro hg; simp at hg ⊢; first | omega | exact hg | grind))))
            refine hK35 _ _ ?_
            try clear hK35 K35
            refine AWp.rs fun K36 hK36 => ?_
            try simp only [go_sem, icast, adsV, fb1, fb3]
            (repeat (with_reducible refine And.intro ?_ ?_; (first | omega | (intro _; omega) | decide | (exact nfB) | (intro _; exact nfB) | (intro hg; refine ⟨hg, ?_⟩; omega) | (simp; done) | (simp; omega) | (intro hg; simp at hg; done) | (intro hg; simp at hg ⊢; first | omega | exact hg | grind))))
            refine hK36 _ _ ?_
            try clear hK36 K36
            refine AWp.mask [true, true, false, false, false, false, true] rfl ?_
            simp only [go_sem]
            refine AWp.cond _ rfl (fun hc11 => ?_) (fun hc11 => ?_)
            · skip
              try simp only [decide_eq_true_eq, decide_eq_false_iff_not, Bool.not_eq_true', Bool.not_eq_false', Bool.and_eq_true, Bool.or_eq_true, Bool.and_eq_false_iff, Bool.or_eq_false_iff, Int.not_lt, Int.not_le, beq_iff_eq, beq_eq_false_iff_ne, ne_eq, Bool.not_eq_true, Bool.not_eq_false] at hc11
              refine AWp.rs fun K37 hK37 => ?_
              try simp only [go_sem, icast, adsV, fb1, fb3]
              (repeat (with_reducible refine And.intro ?_ ?_; (first | omega | (intro _; omega) | decide | (exact nfB) | (intro _; exact nfB) | (intro hg; refine ⟨hg, ?_⟩; omega) | (simp; done) | (simp; omega) | (intro hg; simp at hg; done) | (intro hg; simp at hg ⊢; first | omega | exact hg | grind))))
              refine hK37 _ _ ?_
              try clear hK37 K37
              refine AWp.mask [false, true] rfl ?_
              simp only [go_sem]
              refine AWp.ret ?_
              try simp only [go_sem, icast, adsV, fb1, fb3]
              rw [entE_t hk hf (by omega), if_neg (by omega), if_neg hc9, if_pos hc11]
            · skip
              try simp only [decide_eq_true_eq, decide_eq_false_iff_not, Bool.not_eq_true', Bool.not_eq_false', Bool.and_eq_true, Bool.or_eq_true, Bool.and_eq_false_iff, Bool.or_eq_false_iff, Int.not_lt, Int.not_le, beq_iff_eq, beq_eq_false_iff_ne, ne_eq, Bool.not_eq_true, Bool.not_eq_false] at hc11
              refine AWp.skip ?_
              refine thenQ_n ?_
              refine hK34 _ _ ?_
              try clear hK34 K34
              refine AWp.seq fun K38 hK38 => ?_
              refine AWp.rs fun K39 hK39 => ?_
              try simp only [go_sem, icast, adsV, fb1, fb3]
              (repeat (with_reducible refine And.intro ?_ ?_; (first | omega | (intro _; omega) | decide | (exact nfB) | (intro _; exact nfB) | (intro hg; refine ⟨hg, ?_⟩; omega) | (simp; done) | (simp; omega) | (intro hg; simp at hg; done) | (intro hg; simp at hg ⊢; first | omega | exact hg | grind))))
              refine hK39 _ _ ?_
              try clear hK39 K39
              refine AWp.mask [true, false, false, false, false, true] rfl ?_
              simp only [go_sem]
              refine AWp.cond _ rfl (fun hc12 => ?_) (fun hc12 => ?_)
              · skip
                try simp only [decide_eq_true_eq, decide_eq_false_iff_not, Bool.not_eq_true', Bool.not_eq_false', Bool.and_eq_true, Bool.or_eq_true, Bool.and_eq_false_iff, Bool.or_eq_false_iff, Int.not_lt, Int.not_le, beq_iff_eq, beq_eq_false_iff_ne, ne_eq, Bool.not_eq_true, Bool.not_eq_false] at hc12
                refine AWp.rs fun K40 hK40 => ?_
                try simp only [go_sem, icast, adsV, fb1, fb3]
                (repeat (with_reducible refine And.intro ?_ ?_; (first | omega | (intro _; omega) | decide | (exact nfB) | (intro _; exact nfB) | (intro hg; refine ⟨hg, ?_⟩; omega) | (simp; done) | (simp; omega) | (intro hg; simp at hg; done) | (intro hg; simp at hg ⊢; first | omega | exact hg | grind))))
                refine DW.pcr rfl rfl rfl rfl (Name_c T _ (by first | exact sb | exact sd)) rfl rfl ?_
                try simp only [go_sem, icast, adsV, fb1, fb3]
                (repeat (with_reducible refine And.intro ?_ ?_; (first | omega | (intro _; omega) | decide | (exact nfB) | (intro _; exact nfB) | (intro hg; refine ⟨hg, ?_⟩; omega) | (simp; done) | (simp; omega) | (intro hg; simp at hg; done) | (intro hg; simp at hg ⊢; first | omega | exact hg | grind))))
                refine hK40 _ _ ?_
                try clear hK40 K40
                refine AWp.mask [false, true] rfl ?_
                simp only [go_sem]
                refine AWp.ret ?_
                try simp only [go_sem, icast, adsV, fb1, fb3]
                rw [entE_t hk hf (by omega), if_neg (by omega), if_neg hc9, if_neg (by simpa using hc11), if_pos hc12]
              · skip
                try simp only [decide_eq_true_eq, decide_eq_false_iff_not, Bool.not_eq_true', Bool.not_eq_false', Bool.and_eq_true, Bool.or_eq_true, Bool.and_eq_false_iff, Bool.or_eq_false_iff, Int.not_lt, Int.not_le, beq_iff_eq, beq_eq_false_iff_ne, ne_eq, Bool.not_eq_true, Bool.not_eq_false] at hc12
                refine AWp.skip ?_
                refine thenQ_n ?_
                refine hK38 _ _ ?_
                try clear hK38 K38
                refine AWp.rs fun K41 hK41 => ?_
                try simp only [go_sem, icast, adsV, fb1, fb3]
                (repeat (with_reducible refine And.intro ?_ ?_; (first | omega | (intro _; omega) | decide | (exact nfB) | (intro _; exact nfB) | (intro hg; refine ⟨hg, ?_⟩; omega) | (simp; done) | (simp; omega) | (intro hg; simp at hg; done) | (intro hg; simp at hg ⊢; first | omega | exact hg | grind))))
                refine hK41 _ _ ?_
                try clear hK41 K41
                refine AWp.ret ?_
                try simp only [go_sem, icast, adsV, fb1, fb3]
                rw [entE_t hk hf (by omega), if_neg (by omega), if_neg hc9, if_neg (by simpa using hc11), if_neg hc12]
set_option maxRecDepth 4000 in
set_option maxHeartbeats 1000000 in
theorem EntryFault_c (T : Tbl) (hL : LibT T) (x : Ent) (sb : x.box.length ≤ 9223372036854775807) (sd : x.dest.length ≤ 9223372036854775807) (st : x.text.length ≤ 9223372036854775807) : PC Tryd.prog T 57 [.agg (entA x)] (.d (.int .i64 (entE x))) := by
  refine ⟨Tryd.call57, PCall.enterS Tryd.func57 rfl Tryd.ntmps57 rfl fun hb => ?_⟩
  simp only [go_sem, Tryd.results57]
  refine AWp.rs fun K1 hK1 => ?_
  try simp only [go_sem, icast, adsV]
  (repeat (with_reducible refine And.intro ?_ ?_; (first | omega | (intro _; omega) | decide | (exact nfB) | (intro _; exact nfB) | (intro hg; refine ⟨hg, ?_⟩; omega) | (simp; done) | (simp; omega) | (intro hg; simp at hg; done) | (intro hg; simp at hg ⊢; first | omega | exact hg | grind))))
  intro b1
  first | intro fb1 | have fb1 := True.intro
  try simp only [freshL] at fb1
  try simp only [go_sem, icast, adsV, fb1]
  (repeat (with_reducible refine And.intro ?_ ?_; (first | omega | (intro _; omega) | decide | (exact nfB) | (intro _; exact nfB) | (intro hg; refine ⟨hg, ?_⟩; omega) | (simp; done) | (simp; omega) | (intro hg; simp at hg; done) | (intro hg; simp at hg ⊢; first | omega | exact hg | grind))))
  refine hK1 _ _ ?_
  try clear hK1 K1
  refine AWp.seq fun K2 hK2 => ?_
  refine AWp.rs fun K3 hK3 => ?_
  try simp only [go_sem, icast, adsV, fb1]
  (repeat (with_reducible refine And.intro ?_ ?_; (first | omega | (intro _; omega) | decide | (exact nfB) | (intro _; exact nfB) | (intro hg; refine ⟨hg, ?_⟩; omega) | (simp; done) | (simp; omega) | (intro hg; simp at hg; done) | (intro hg; simp at hg ⊢; first | omega | exact hg | grind))))
  refine DW.pcr rfl rfl rfl rfl (In_c T _ _ _) rfl rfl ?_
  try simp only [go_sem, icast, adsV, fb1]
  (repeat (with_reducible refine And.intro ?_ ?_; (first | omega | (intro _; omega) | decide | (exact nfB) | (intro _; exact nfB) | (intro hg; refine ⟨hg, ?_⟩; omega) | (simp; done) | (simp; omega) | (intro hg; simp at hg; done) | (intro hg; simp at hg ⊢; first | omega | exact hg | grind))))
  refine hK3 _ _ ?_
  try clear hK3 K3
  refine AWp.mask [false, true, false, false, false, false, true] rfl ?_
  simp only [go_sem]
  refine AWp.cond _ rfl (fun hc0 => ?_) (fun hc0 => ?_)
  · skip
    try simp only [decide_eq_true_eq, decide_eq_false_iff_not, Bool.not_eq_true', Bool.not_eq_false', Bool.and_eq_true, Bool.or_eq_true, Bool.and_eq_false_iff, Bool.or_eq_false_iff, Int.not_lt, Int.not_le, beq_iff_eq, beq_eq_false_iff_ne, ne_eq, Bool.not_eq_true, Bool.not_eq_false] at hc0
    refine AWp.rs fun K4 hK4 => ?_
    try simp only [go_sem, icast, adsV, fb1]
    (repeat (with_reducible refine And.intro ?_ ?_; (first | omega | (intro _; omega) | decide | (exact nfB) | (intro _; exact nfB) | (intro hg; refine ⟨hg, ?_⟩; omega) | (simp; done) | (simp; omega) | (intro hg; simp at hg; done) | (intro hg; simp at hg ⊢; first | omega | exact hg | grind))))
    refine hK4 _ _ ?_
    try clear hK4 K4
    refine AWp.ret ?_
    try simp only [go_sem, icast, adsV, fb1]
    rw [entE_2 (by omega)]
  · skip
    try simp only [decide_eq_true_eq, decide_eq_false_iff_not, Bool.not_eq_true', Bool.not_eq_false', Bool.and_eq_true, Bool.or_eq_true, Bool.and_eq_false_iff, Bool.or_eq_false_iff, Int.not_lt, Int.not_le, beq_iff_eq, beq_eq_false_iff_ne, ne_eq, Bool.not_eq_true, Bool.not_eq_false] at hc0
    have hk : 1 ≤ x.kind ∧ x.kind ≤ 6 := by omega
    refine AWp.skip ?_
    refine thenQ_n ?_
    refine hK2 _ _ ?_
    try clear hK2 K2
    refine AWp.rs fun K5 hK5 => ?_
    try simp only [go_sem, icast, adsV, fb1]
    (repeat (with_reducible refine And.intro ?_ ?_; (first | omega | (intro _; omega) | decide | (exact nfB) | (intro _; exact nfB) | (intro hg; refine ⟨hg, ?_⟩; omega) | (simp; done) | (simp; omega) | (intro hg; simp at hg; done) | (intro hg; simp at hg ⊢; first | omega | exact hg | grind))))
    refine hK5 _ _ ?_
    try clear hK5 K5
    refine AWp.mask [true, true] rfl ?_
    simp only [go_sem]
    refine AWp.rs fun K6 hK6 => ?_
    try simp only [go_sem, icast, adsV, fb1]
    (repeat (with_reducible refine And.intro ?_ ?_; (first | omega | (intro _; omega) | decide | (exact nfB) | (intro _; exact nfB) | (intro hg; refine ⟨hg, ?_⟩; omega) | (simp; done) | (simp; omega) | (intro hg; simp at hg; done) | (intro hg; simp at hg ⊢; first | omega | exact hg | grind))))
    refine hK6 _ _ ?_
    try clear hK6 K6
    refine AWp.rs fun K7 hK7 => ?_
    try simp only [go_sem, icast, adsV, fb1]
    (repeat (with_reducible refine And.intro ?_ ?_; (first | omega | (intro _; omega) | decide | (exact nfB) | (intro _; exact nfB) | (intro hg; refine ⟨hg, ?_⟩; omega) | (simp; done) | (simp; omega) | (intro hg; simp at hg; done) | (intro hg; simp at hg ⊢; first | omega | exact hg | grind))))
    refine hK7 _ _ ?_
    try clear hK7 K7
    refine AWp.mask [true, true, true, true] rfl ?_
    simp only [go_sem]
    refine AWp.rs fun K8 hK8 => ?_
    try simp only [go_sem, icast, adsV, fb1]
    (repeat (with_reducible refine And.intro ?_ ?_; (first | omega | (intro _; omega) | decide | (exact nfB) | (intro _; exact nfB) | (intro hg; refine ⟨hg, ?_⟩; omega) | (simp; done) | (simp; omega) | (intro hg; simp at hg; done) | (intro hg; simp at hg ⊢; first | omega | exact hg | grind))))
    refine hK8 _ _ ?_
    try clear hK8 K8
    refine AWp.seq fun K9 hK9 => ?_
    refine AWp.rs fun K10 hK10 => ?_
    try simp only [go_sem, icast, adsV, fb1]
    (repeat (with_reducible refine And.intro ?_ ?_; (first | omega | (intro _; omega) | decide | (exact nfB) | (intro _; exact nfB) | (intro hg; refine ⟨hg, ?_⟩; omega) | (simp; done) | (simp; omega) | (intro hg; simp at hg; done) | (intro hg; simp at hg ⊢; first | omega | exact hg | grind))))
    refine hK10 _ _ ?_
    try clear hK10 K10
    refine AWp.mask [true, true, true, false, false, false, false, false, false, false, false, false, false, false, false, false, false, false, false, false, false, false, false, false, false, false, false, false, false, false, false, false, false, false, false, false, false, false, false, false, false, false, false, false, false, false, false, false, false, false, false, false, false, false, false, false, false, false, false, false, false, false, false, false, false, true] rfl ?_
    simp only [go_sem]
    refine AWp.cond _ rfl (fun hc1 => ?_) (fun hc1 => ?_)
    · skip
      try simp only [decide_eq_true_eq, decide_eq_false_iff_not, Bool.not_eq_true', Bool.not_eq_false', Bool.and_eq_true, Bool.or_eq_true, Bool.and_eq_false_iff, Bool.or_eq_false_iff, Int.not_lt, Int.not_le, beq_iff_eq, beq_eq_false_iff_ne, ne_eq, Bool.not_eq_true, Bool.not_eq_false] at hc1
      have hf : formB x = true := by unfold formB; simpa using hc1
      refine AWp.rs fun K11 hK11 => ?_
      try simp only [go_sem, icast, adsV, fb1]
      (repeat (with_reducible refine And.intro ?_ ?_; (first | omega | (intro _; omega) | decide | (exact nfB) | (intro _; exact nfB) | (intro hg; refine ⟨hg, ?_⟩; omega) | (simp; done) | (simp; omega) | (intro hg; simp at hg; done) | (intro hg; simp at hg ⊢; first | omega | exact hg | grind))))
      refine hK11 _ _ ?_
      try clear hK11 K11
      refine AWp.mask [false, true] rfl ?_
      simp only [go_sem]
      refine AWp.ret ?_
      try simp only [go_sem, icast, adsV, fb1]
      rw [entE_3 hk hf]
    · skip
      try simp only [decide_eq_true_eq, decide_eq_false_iff_not, Bool.not_eq_true', Bool.not_eq_false', Bool.and_eq_true, Bool.or_eq_true, Bool.and_eq_false_iff, Bool.or_eq_false_iff, Int.not_lt, Int.not_le, beq_iff_eq, beq_eq_false_iff_ne, ne_eq, Bool.not_eq_true, Bool.not_eq_false] at hc1
      have hf : formB x = false := by
        simp only [formB, decide_eq_true_eq, decide_eq_false_iff_not, Bool.not_eq_true', Bool.not_eq_false', Bool.and_eq_true, Bool.or_eq_true, Bool.and_eq_false_iff, Bool.or_eq_false_iff, Int.not_lt, Int.not_le, beq_iff_eq, beq_eq_false_iff_ne, ne_eq, Bool.not_eq_true, Bool.not_eq_false]
        exact hc1
      refine AWp.skip ?_
      refine thenQ_n ?_
      refine hK9 _ _ ?_
      try clear hK9 K9
      refine AWp.seq fun K12 hK12 => ?_
      refine AWp.rs fun K13 hK13 => ?_
      try simp only [go_sem, icast, adsV, fb1]
      (repeat (with_reducible refine And.intro ?_ ?_; (first | omega | (intro _; omega) | decide | (exact nfB) | (intro _; exact nfB) | (intro hg; refine ⟨hg, ?_⟩; omega) | (simp; done) | (simp; omega) | (intro hg; simp at hg; done) | (intro hg; simp at hg ⊢; first | omega | exact hg | grind))))
      refine DW.pcr rfl rfl rfl rfl (In_c T _ _ _) rfl rfl ?_
      try simp only [go_sem, icast, adsV, fb1]
      (repeat (with_reducible refine And.intro ?_ ?_; (first | omega | (intro _; omega) | decide | (exact nfB) | (intro _; exact nfB) | (intro hg; refine ⟨hg, ?_⟩; omega) | (simp; done) | (simp; omega) | (intro hg; simp at hg; done) | (intro hg; simp at hg ⊢; first | omega | exact hg | grind))))
      refine DW.pcgr rfl rfl rfl rfl rfl (fun hg => In_c T _ _ _) (fun hg => by (try simp only [go_sem, icast, adsV, fb1]) <;> first | exact hg | (exfalso; simp at hg; done) | (simpa using hg) | grind) rfl rfl ?_
      try simp only [go_sem, icast, adsV, fb1]
      (repeat (with_reducible refine And.intro ?_ ?_; (first | omega | (intro _; omega) | decide | (exact nfB) | (intro _; exact nfB) | (intro hg; refine ⟨hg, ?_⟩; omega) | (simp; done) | (simp; omega) | (intro hg; simp at hg; done) | (intro hg; simp at hg ⊢; first | omega | exact hg | grind))))
      refine hK13 _ _ ?_
      try clear hK13 K13
      refine AWp.mask [true, true, true, false, false, false, false, false, false, false, false, false, false, true] rfl ?_
      simp only [go_sem]
      refine AWp.cond _ rfl (fun hc2 => ?_) (fun hc2 => ?_)
      · skip
        try simp only [decide_eq_true_eq, decide_eq_false_iff_not, Bool.not_eq_true', Bool.not_eq_false', Bool.and_eq_true, Bool.or_eq_true, Bool.and_eq_false_iff, Bool.or_eq_false_iff, Int.not_lt, Int.not_le, beq_iff_eq, beq_eq_false_iff_ne, ne_eq, Bool.not_eq_true, Bool.not_eq_false] at hc2
        refine AWp.rs fun K14 hK14 => ?_
        try simp only [go_sem, icast, adsV, fb1]
        (repeat (with_reducible refine And.intro ?_ ?_; (first | omega | (intro _; omega) | decide | (exact nfB) | (intro _; exact nfB) | (intro hg; refine ⟨hg, ?_⟩; omega) | (simp; done) | (simp; omega) | (intro hg; simp at hg; done) | (intro hg; simp at hg ⊢; first | omega | exact hg | grind))))
        refine hK14 _ _ ?_
        try clear hK14 K14
        refine AWp.mask [false, true] rfl ?_
        simp only [go_sem]
        refine AWp.ret ?_
        try simp only [go_sem, icast, adsV, fb1]
        rw [entE_6 hk hf (by omega)]
      · skip
        try simp only [decide_eq_true_eq, decide_eq_false_iff_not, Bool.not_eq_true', Bool.not_eq_false', Bool.and_eq_true, Bool.or_eq_true, Bool.and_eq_false_iff, Bool.or_eq_false_iff, Int.not_lt, Int.not_le, beq_iff_eq, beq_eq_false_iff_ne, ne_eq, Bool.not_eq_true, Bool.not_eq_false] at hc2
        refine AWp.skip ?_
        refine thenQ_n ?_
        refine hK12 _ _ ?_
        try clear hK12 K12
        refine AWp.seq fun K15 hK15 => ?_
        refine AWp.rs fun K16 hK16 => ?_
        try simp only [go_sem, icast, adsV, fb1]
        (repeat (with_reducible refine And.intro ?_ ?_; (first | omega | (intro _; omega) | decide | (exact nfB) | (intro _; exact nfB) | (intro hg; refine ⟨hg, ?_⟩; omega) | (simp; done) | (simp; omega) | (intro hg; simp at hg; done) | (intro hg; simp at hg ⊢; first | omega | exact hg | grind))))
        refine hK16 _ _ ?_
        try clear hK16 K16
        refine AWp.mask [true, true, true, false, false, false, false, true] rfl ?_
        simp only [go_sem]
        refine AWp.cond _ rfl (fun hc3 => ?_) (fun hc3 => ?_)
        · skip
          try simp only [decide_eq_true_eq, decide_eq_false_iff_not, Bool.not_eq_true', Bool.not_eq_false', Bool.and_eq_true, Bool.or_eq_true, Bool.and_eq_false_iff, Bool.or_eq_false_iff, Int.not_lt, Int.not_le, beq_iff_eq, beq_eq_false_iff_ne, ne_eq, Bool.not_eq_true, Bool.not_eq_false] at hc3
          refine AWp.rs fun K17 hK17 => ?_
          try simp only [go_sem, icast, adsV, fb1]
          (repeat (with_reducible refine And.intro ?_ ?_; (first | omega | (intro _; omega) | decide | (exact nfB) | (intro _; exact nfB) | (intro hg; refine ⟨hg, ?_⟩; omega) | (simp; done) | (simp; omega) | (intro hg; simp at hg; done) | (intro hg; simp at hg ⊢; first | omega | exact hg | grind))))
          refine hK17 _ _ ?_
          try clear hK17 K17
          refine AWp.mask [false, true] rfl ?_
          simp only [go_sem]
          refine AWp.ret ?_
          try simp only [go_sem, icast, adsV, fb1]
          rw [entE_t hk hf (by omega), if_pos (by omega)]
        · skip
          try simp only [decide_eq_true_eq, decide_eq_false_iff_not, Bool.not_eq_true', Bool.not_eq_false', Bool.and_eq_true, Bool.or_eq_true, Bool.and_eq_false_iff, Bool.or_eq_false_iff, Int.not_lt, Int.not_le, beq_iff_eq, beq_eq_false_iff_ne, ne_eq, Bool.not_eq_true, Bool.not_eq_false] at hc3
          refine AWp.skip ?_
          refine thenQ_n ?_
          refine hK15 _ _ ?_
          try clear hK15 K15
          refine AWp.seq fun K18 hK18 => ?_
          refine AWp.rs fun K19 hK19 => ?_
          try simp only [go_sem, icast, adsV, fb1]
          (repeat (with_reducible refine And.intro ?_ ?_; (first | omega | (intro _; omega) | decide | (exact nfB) | (intro _; exact nfB) | (intro hg; refine ⟨hg, ?_⟩; omega) | (simp; done) | (simp; omega) | (intro hg; simp at hg; done) | (intro hg; simp at hg ⊢; first | omega | exact hg | grind))))
          refine hK19 _ _ ?_
          try clear hK19 K19
          refine AWp.cond _ rfl (fun hc4 => ?_) (fun hc4 => ?_)
          · skip
            try simp only [decide_eq_true_eq, decide_eq_false_iff_not, Bool.not_eq_true', Bool.not_eq_false', Bool.and_eq_true, Bool.or_eq_true, Bool.and_eq_false_iff, Bool.or_eq_false_iff, Int.not_lt, Int.not_le, beq_iff_eq, beq_eq_false_iff_ne, ne_eq, Bool.not_eq_true, Bool.not_eq_false] at hc4
            refine AWp.seq fun K20 hK20 => ?_
            refine AWp.rs fun K21 hK21 => ?_
            try simp only [go_sem, icast, adsV, fb1]
            (repeat (with_reducible refine And.intro ?_ ?_; (first | omega | (intro _; omega) | decide | (exact nfB) | (intro _; exact nfB) | (intro hg; refine ⟨hg, ?_⟩; omega) | (simp; done) | (simp; omega) | (intro hg; simp at hg; done) | (intro hg; simp at hg ⊢; first | omega | exact hg | grind))))
            refine hK21 _ _ ?_
            try clear hK21 K21
            refine AWp.mask [true, false, false, false, false, false, false, false, true] rfl ?_
            simp only [go_sem]
            refine AWp.cond _ rfl (fun hc5 => ?_) (fun hc5 => ?_)
            · skip
              try simp only [decide_eq_true_eq, decide_eq_false_iff_not, Bool.not_eq_true', Bool.not_eq_false', Bool.and_eq_true, Bool.or_eq_true, Bool.and_eq_false_iff, Bool.or_eq_false_iff, Int.not_lt, Int.not_le, beq_iff_eq, beq_eq_false_iff_ne, ne_eq, Bool.not_eq_true, Bool.not_eq_false] at hc5
              refine AWp.rs fun K22 hK22 => ?_
              try simp only [go_sem, icast, adsV, fb1]
              (repeat (with_reducible refine And.intro ?_ ?_; (first | omega | (intro _; omega) | decide | (exact nfB) | (intro _; exact nfB) | (intro hg; refine ⟨hg, ?_⟩; omega) | (simp; done) | (simp; omega) | (intro hg; simp at hg; done) | (intro hg; simp at hg ⊢; first | omega | exact hg | grind))))
              refine hK22 _ _ ?_
              try clear hK22 K22
              refine AWp.ret ?_
              try simp only [go_sem, icast, adsV, fb1]
              rw [entE_t hk hf (by omega), if_neg (by omega), if_pos hc4, destE_big (by omega)]
            · skip
              try simp only [decide_eq_true_eq, decide_eq_false_iff_not, Bool.not_eq_true', Bool.not_eq_false', Bool.and_eq_true, Bool.or_eq_true, Bool.and_eq_false_iff, Bool.or_eq_false_iff, Int.not_lt, Int.not_le, beq_iff_eq, beq_eq_false_iff_ne, ne_eq, Bool.not_eq_true, Bool.not_eq_false] at hc5
              refine AWp.skip ?_
              refine thenQ_n ?_
              refine hK20 _ _ ?_
              try clear hK20 K20
              rcases hp : listS x.dest with _ | l
              · skip
                refine AWp.rs fun K23 hK23 => ?_
                try simp only [go_sem, icast, adsV, fb1]
                (repeat (with_reducible refine And.intro ?_ ?_; (first | omega | (intro _; omega) | decide | (exact nfB) | (intro _; exact nfB) | (intro hg; refine ⟨hg, ?_⟩; omega) | (simp; done) | (simp; omega) | (intro hg; simp at hg; done) | (intro hg; simp at hg ⊢; first | omega | exact hg | grind))))
                refine DW.pcr rfl rfl rfl rfl (listOf_none T hL _ (by omega) hp) rfl rfl ?_
                try simp only [go_sem, icast, adsV, fb1]
                (repeat (with_reducible refine And.intro ?_ ?_; (first | omega | (intro _; omega) | decide | (exact nfB) | (intro _; exact nfB) | (intro hg; refine ⟨hg, ?_⟩; omega) | (simp; done) | (simp; omega) | (intro hg; simp at hg; done) | (intro hg; simp at hg ⊢; first | omega | exact hg | grind))))
                refine hK23 _ _ ?_
                try clear hK23 K23
                refine AWp.mask [false, true, true] rfl ?_
                simp only [go_sem]
                refine AWp.seq fun K24 hK24 => ?_
                refine AWp.rs fun K25 hK25 => ?_
                try simp only [go_sem, icast, adsV, fb1]
                (repeat (with_reducible refine And.intro ?_ ?_; (first | omega | (intro _; omega) | decide | (exact nfB) | (intro _; exact nfB) | (intro hg; refine ⟨hg, ?_⟩; omega) | (simp; done) | (simp; omega) | (intro hg; simp at hg; done) | (intro hg; simp at hg ⊢; first | omega | exact hg | grind))))
                refine hK25 _ _ ?_
                try clear hK25 K25
                refine AWp.mask [false, false, false, false, false, false, false, false, true] rfl ?_
                simp only [go_sem]
                refine AWp.cond _ rfl (fun hc6 => ?_) (fun hc6 => ?_)
                · skip
                  try simp only [decide_eq_true_eq, decide_eq_false_iff_not, Bool.not_eq_true', Bool.not_eq_false', Bool.and_eq_true, Bool.or_eq_true, Bool.and_eq_false_iff, Bool.or_eq_false_iff, Int.not_lt, Int.not_le, beq_iff_eq, beq_eq_false_iff_ne, ne_eq, Bool.not_eq_true, Bool.not_eq_false] at hc6
                  refine AWp.rs fun K26 hK26 => ?_
                  try simp only [go_sem, icast, adsV, fb1]
                  (repeat (with_reducible refine And.intro ?_ ?_; (first | omega | (intro _; omega) | decide | (exact nfB) | (intro _; exact nfB) | (intro hg; refine ⟨hg, ?_⟩; omega) | (simp; done) | (simp; omega) | (intro hg; simp at hg; done) | (intro hg; simp at hg ⊢; first | omega | exact hg | grind))))
                  refine hK26 _ _ ?_
                  try clear hK26 K26
                  refine AWp.ret ?_
                  try simp only [go_sem, icast, adsV, fb1]
                  first | rw [entE_t hk hf (by omega), if_neg (by omega), if_pos hc4, destE_none (by omega) hp] | rw [entE_t hk hf (by omega), if_neg (by omega), if_pos hc4, destE_some (by omega) hp, if_neg (by simp at hc6; omega)]
                · skip
                  exact absurd hc6 (by simp)
              · skip
                refine AWp.rs fun K23 hK23 => ?_
                try simp only [go_sem, icast, adsV, fb1]
                (repeat (with_reducible refine And.intro ?_ ?_; (first | omega | (intro _; omega) | decide | (exact nfB) | (intro _; exact nfB) | (intro hg; refine ⟨hg, ?_⟩; omega) | (simp; done) | (simp; omega) | (intro hg; simp at hg; done) | (intro hg; simp at hg ⊢; first | omega | exact hg | grind))))
                refine DW.pcr rfl rfl rfl rfl (listOf_some T hL _ (by omega) l hp) rfl rfl ?_
                try simp only [go_sem, icast, adsV, fb1]
                (repeat (with_reducible refine And.intro ?_ ?_; (first | omega | (intro _; omega) | decide | (exact nfB) | (intro _; exact nfB) | (intro hg; refine ⟨hg, ?_⟩; omega) | (simp; done) | (simp; omega) | (intro hg; simp at hg; done) | (intro hg; simp at hg ⊢; first | omega | exact hg | grind))))
                refine hK23 _ _ ?_
                try clear hK23 K23
                refine AWp.mask [false, true, true] rfl ?_
                simp only [go_sem]
                refine AWp.seq fun K27 hK27 => ?_
                refine AWp.rs fun K28 hK28 => ?_
                try simp only [go_sem, icast, adsV, fb1]
                (repeat (with_reducible refine And.intro ?_ ?_; (first | omega | (intro _; omega) | decide | (exact nfB) | (intro _; exact nfB) | (intro hg; refine ⟨hg, ?_⟩; omega) | (simp; done) | (simp; omega) | (intro hg; simp at hg; done) | (intro hg; simp at hg ⊢; first | omega | exact hg | grind))))
                refine hK28 _ _ ?_
                try clear hK28 K28
                refine AWp.mask [false, false, false, false, false, false, false, false, true] rfl ?_
                simp only [go_sem]
                refine AWp.cond _ rfl (fun hc6 => ?_) (fun hc6 => ?_)
                · skip
                  try simp only [decide_eq_true_eq, decide_eq_false_iff_not, Bool.not_eq_true', Bool.not_eq_false', Bool.and_eq_true, Bool.or_eq_true, Bool.and_eq_false_iff, Bool.or_eq_false_iff, Int.not_lt, Int.not_le, beq_iff_eq, beq_eq_false_iff_ne, ne_eq, Bool.not_eq_true, Bool.not_eq_false] at hc6
                  refine AWp.rs fun K29 hK29 => ?_
                  try simp only [go_sem, icast, adsV, fb1]
                  (repeat (with_reducible refine And.intro ?_ ?_; (first | omega | (intro _; omega) | decide | (exact nfB) | (intro _; exact nfB) | (intro hg; refine ⟨hg, ?_⟩; omega) | (simp; done) | (simp; omega) | (intro hg; simp at hg; done) | (intro hg; simp at hg ⊢; first | omega | exact hg | grind))))
                  refine hK29 _ _ ?_
                  try clear hK29 K29
                  refine AWp.ret ?_
                  try simp only [go_sem, icast, adsV, fb1]
                  first | rw [entE_t hk hf (by omega), if_neg (by omega), if_pos hc4, destE_none (by omega) hp] | rw [entE_t hk hf (by omega), if_neg (by omega), if_pos hc4, destE_some (by omega) hp, if_neg (by simp at hc6; omega)]
                · skip
                  try simp only [decide_eq_true_eq, decide_eq_false_iff_not, Bool.not_eq_true', Bool.not_eq_false', Bool.and_eq_true, Bool.or_eq_true, Bool.and_eq_false_iff, Bool.or_eq_false_iff, Int.not_lt, Int.not_le, beq_iff_eq, beq_eq_false_iff_ne, ne_eq, Bool.not_eq_true, Bool.not_eq_false] at hc6
                  refine AWp.skip ?_
                  refine thenQ_n ?_
                  refine hK27 _ _ ?_
                  try clear hK27 K27
                  refine AWp.rs fun K30 hK30 => ?_
                  try simp only [go_sem, icast, adsV, fb1]
                  (repeat (with_reducible refine And.intro ?_ ?_; (first | omega | (intro _; omega) | decide | (exact nfB) | (intro _; exact nfB) | (intro hg; refine ⟨hg, ?_⟩; omega) | (simp; done) | (simp; omega) | (intro hg; simp at hg; done) | (intro hg; simp at hg ⊢; first | omega | exact hg | grind))))
                  refine hK30 _ _ ?_
                  try clear hK30 K30
                  refine AWp.ret ?_
                  try simp only [go_sem, icast, adsV, fb1]
                  rw [entE_t hk hf (by omega), if_neg (by omega), if_pos hc4, destE_some (by omega) hp, if_pos (by simp at hc6; omega)]
          · skip
            try simp only [decide_eq_true_eq, decide_eq_false_iff_not, Bool.not_eq_true', Bool.not_eq_false', Bool.and_eq_true, Bool.or_eq_true, Bool.and_eq_false_iff, Bool.or_eq_false_iff, Int.not_lt, Int.not_le, beq_iff_eq, beq_eq_false_iff_ne, ne_eq, Bool.not_eq_true, Bool.not_eq_false] at hc4
            refine AWp.skip ?_
            refine thenQ_n ?_
            refine hK18 _ _ ?_
            try clear hK18 K18
            refine AWp.rs fun K31 hK31 => ?_
            try simp only [go_sem, icast, adsV, fb1]
            (repeat (with_reducible refine And.intro ?_ ?_; (first | omega | (intro _; omega) | decide | (exact nfB) | (intro _; exact nfB) | (intro hg; refine ⟨hg, ?_⟩; omega) | (simp; done) | (simp; omega) | (intro hg; simp at hg; done) | (intro hg; simp at hg ⊢; first | omega | exact hg | grind))))
            refine DW.pcr rfl rfl rfl rfl (BoxName_c T _ (by first | exact sb | exact sd)) rfl rfl ?_
            try simp only [go_sem, icast, adsV, fb1]
            (repeat (with_reducible refine And.intro ?_ ?_; (first | omega | (intro _; omega) | decide | (exact nfB) | (intro _; exact nfB) | (intro hg; refine ⟨hg, ?_⟩; omega) | (simp; done) | (simp; omega) | (intro hg; simp at hg; done) | (intro hg; simp at hg ⊢; first | omega | exact hg | grind))))
            refine hK31 _ _ ?_
            try clear hK31 K31
            refine AWp.mask [true, false, true, true] rfl ?_
            simp only [go_sem]
            refine AWp.seq fun K32 hK32 => ?_
            refine AWp.rs fun K33 hK33 => ?_
            try simp only [go_sem, icast, adsV, fb1]
            (repeat (with_reducible refine And.intro ?_ ?_; (first | omega | (intro _; omega) | decide | (exact nfB) | (intro _; exact nfB) | (intro hg; refine ⟨hg, ?_⟩; omega) | (simp; done) | (simp; omega) | (intro hg; simp at hg; done) | (intro hg; simp at hg ⊢; first | omega | exact hg | grind))))
            refine hK33 _ _ ?_
            try clear hK33 K33
            refine AWp.mask [true, false, true, false, false, false, false, true] rfl ?_
            simp only [go_sem]
            refine AWp.cond _ rfl (fun hc7 => ?_) (fun hc7 => ?_)
            · skip
              try simp only [decide_eq_true_eq, decide_eq_false_iff_not, Bool.not_eq_true', Bool.not_eq_false', Bool.and_eq_true, Bool.or_eq_true, Bool.and_eq_false_iff, Bool.or_eq_false_iff, Int.not_lt, Int.not_le, beq_iff_eq, beq_eq_false_iff_ne, ne_eq, Bool.not_eq_true, Bool.not_eq_false] at hc7
              refine AWp.rk fun K34 hK34 => ?_
              try simp only [go_sem, icast, adsV, fb1]
              (repeat (with_reducible refine And.intro ?_ ?_; (first | omega | (intro _; omega) | decide | (exact nfB) | (intro _; exact nfB) | (intro hg; refine ⟨hg, ?_⟩; omega) | (simp; done) | (simp; omega) | (intro hg; simp at hg; done) | (intro hg; simp at hg ⊢; first | omega | exact hg | grind))))
              refine DW.pcr rfl rfl rfl rfl (BoxName_c T _ (by first | exact sb | exact sd)) rfl rfl ?_
              try simp only [go_sem, icast, adsV, fb1]
              (repeat (with_reducible refine And.intro ?_ ?_; (first | omega | (intro _; omega) | decide | (exact nfB) | (intro _; exact nfB) | (intro hg; refine ⟨hg, ?_⟩; omega) | (simp; done) | (simp; omega) | (intro hg; simp at hg; done) | (intro hg; simp at hg ⊢; first | omega | exact hg | grind))))
              refine hK34 _ _ ?_
              try clear hK34 K34
              refine thenQ_n ?_
              refine hK32 _ _ ?_
              try clear hK32 K32
              refine AWp.mask [false, true] rfl ?_
              simp only [go_sem]
              refine AWp.rs fun K35 hK35 => ?_
              try simp only [go_sem, icast, adsV, fb1]
              (repeat (with_reducible refine And.intro ?_ ?_; (first | omega | (intro _; omega) | decide | (exact nfB) | (intro _; exact nfB) | (intro hg; refine ⟨hg, ?_⟩; omega) | (simp; done) | (simp; omega) | (intro hg; simp at hg; done) | (intro hg; simp at hg ⊢; first | omega | exact hg | grind))))
              refine hK35 _ _ ?_
              try clear hK35 K35
              refine AWp.ret ?_
              try simp only [go_sem, icast, adsV, fb1]
              first
              | rw [entE_t hk hf (by omega), if_neg (by omega), if_neg hc4, if_neg (by simp [hc7.1]), if_pos hc7.2]
              | (by_cases hn : nameE x.box = 0
                 · rw [entE_t hk hf (by omega), if_neg (by omega), if_neg hc4, if_neg (by simp [hn]), if_neg (by omega), hn]
                 · rw [entE_t hk hf (by omega), if_neg (by omega), if_neg hc4, if_pos hn])
            · skip
              try simp only [decide_eq_true_eq, decide_eq_false_iff_not, Bool.not_eq_true', Bool.not_eq_false', Bool.and_eq_true, Bool.or_eq_true, Bool.and_eq_false_iff, Bool.or_eq_false_iff, Int.not_lt, Int.not_le, beq_iff_eq, beq_eq_false_iff_ne, ne_eq, Bool.not_eq_true, Bool.not_eq_false] at hc7
              refine AWp.skip ?_
              refine thenQ_n ?_
              refine hK32 _ _ ?_
              try clear hK32 K32
              refine AWp.rs fun K36 hK36 => ?_
              try simp only [go_sem, icast, adsV, fb1]
              (repeat (with_reducible refine And.intro ?_ ?_; (first | omega | (intro _; omega) | decide | (exact nfB) | (intro _; exact nfB) | (intro hg; refine ⟨hg, ?_⟩; omega) | (simp; done) | (simp; omega) | (intro hg; simp at hg; done) | (intro hg; simp at hg ⊢; first | omega | exact hg | grind))))
              refine hK36 _ _ ?_
              try clear hK36 K36
              refine AWp.mask [false, true] rfl ?_
              simp only [go_sem]
              refine AWp.ret ?_
              try simp only [go_sem, icast, adsV, fb1]
              first
              | rw [entE_t hk hf (by omega), if_neg (by omega), if_neg hc4, if_neg (by simp [hc7.1]), if_pos hc7.2]
              | (by_cases hn : nameE x.box = 0
                 · rw [entE_t hk hf (by omega), if_neg (by omega), if_neg hc4, if_neg (by simp [hn]), if_neg (by omega), hn]
                 · rw [entE_t hk hf (by omega), if_neg (by omega), if_neg hc4, if_pos hn])
end Go.Proofs.YthhfbolhlbgbgaaDoor

namespace Go.Proofs.YthhfbolhlbgbgaaDoor
set_option linter.unusedSimpArgs false
set_option linter.unusedVariables false
structure EntOk (x : Ent) : Prop where
  box : x.box.length ≤ 9223372036854775807
  dest : x.dest.length ≤ 9223372036854775807
  text : x.text.length ≤ 9223372036854775807
theorem Form_e (T : Tbl) (hL : LibT T) {x : Ent} (ok : EntOk x) : PC Tryd.prog T 67 [.agg (entA x)] (.d (.int .i64 (entE x))) := Form_c T hL x ok.box ok.dest ok.text
theorem EntryFault_e (T : Tbl) (hL : LibT T) {x : Ent} (ok : EntOk x) : PC Tryd.prog T 57 [.agg (entA x)] (.d (.int .i64 (entE x))) := EntryFault_c T hL x ok.box ok.dest ok.text
def entsD (l : List Ent) : List (List D) := l.map entD
@[go_sem] theorem entsD_len (l : List Ent) : (entsD l).length = l.length := by simp [entsD]
theorem entsD_get (l : List Ent) (i : Nat) (d : List D) (h : i < l.length) : (entsD l).getD i d = entD (l[i]'h) := map_getD entD _ _ _ h
theorem entsD_nil (l : List Ent) (i : Nat) (h : l.length ≤ i) : (entsD l).getD i [] = [] := by simp [entsD, List.getD, h]
/-- the first entry that is wrong -/
def firstE : List Ent → Int
  | [] => 0
  | x :: l => if entE x ≠ 0 then entE x else firstE l
theorem first_t {l : List Ent} {k : Nat} (h : k < l.length) (he : entE (l[k]'h) ≠ 0) : firstE (l.drop k) = entE (l[k]'h) := by rw [List.drop_eq_getElem_cons h, firstE, if_pos he]
theorem first_f {l : List Ent} {k : Nat} (h : k < l.length) (he : entE (l[k]'h) = 0) : firstE (l.drop k) = firstE (l.drop (k + 1)) := by rw [List.drop_eq_getElem_cons h, firstE, if_neg (by simp [he])]
theorem first_end {l : List Ent} {k : Nat} (h : l.length ≤ k) : firstE (l.drop k) = 0 := by rw [List.drop_eq_nil_of_le h]; rfl
def batE (u : Int) (l : List Ent) : Int := if u < 0 ∨ 2 < u then 6 else if l.length < 1 ∨ 10 < l.length then 1 else firstE l
theorem batE_6 {u : Int} {l : List Ent} (h : u < 0 ∨ 2 < u) : batE u l = 6 := if_pos h
theorem batE_1 {u : Int} {l : List Ent} (h : ¬ (u < 0 ∨ 2 < u)) (h2 : l.length < 1 ∨ 10 < l.length) : batE u l = 1 := by unfold batE; rw [if_neg h, if_pos h2]
theorem batE_t {u : Int} {l : List Ent} (h : ¬ (u < 0 ∨ 2 < u)) (h2 : ¬ (l.length < 1 ∨ 10 < l.length)) : batE u l = firstE l := by unfold batE; rw [if_neg h, if_neg h2]
set_option maxRecDepth 4000 in
set_option maxHeartbeats 1000000 in
theorem Check_c (T : Tbl) (hL : LibT T) (u : Int) (l : List Ent) (ok : ∀ x ∈ l, EntOk x) : PC Tryd.prog T 71 [.agg [.d (.int .i64 u), .d (.slc 6 (entsD l))]] (.d (.int .i64 (batE u l))) := by
  refine ⟨Tryd.call71, PCall.enterS Tryd.func71 rfl Tryd.ntmps71 rfl fun hb => ?_⟩
  simp only [go_sem, Tryd.results71]
  refine AWp.rs fun K1 hK1 => ?_
  try simp only [go_sem, icast, entD]
  (repeat (with_reducible refine And.intro ?_ ?_; (first | omega | (intro _; omega) | decide | (exact nfB) | (intro _; exact nfB) | (intro hg; refine ⟨hg, ?_⟩; omega) | (simp; done) | (simp; omega) | (intro hg; simp at hg; done) | (intro hg; simp at hg ⊢; first | omega | exact hg | grind))))
  intro b1
  first | intro fb1 | have fb1 := True.intro
  try simp only [freshL] at fb1
  try simp only [go_sem, icast, entD, fb1]
  (repeat (with_reducible refine And.intro ?_ ?_; (first | omega | (intro _; omega) | decide | (exact nfB) | (intro _; exact nfB) | (intro hg; refine ⟨hg, ?_⟩; omega) | (simp; done) | (simp; omega) | (intro hg; simp at hg; done) | (intro hg; simp at hg ⊢; first | omega | exact hg | grind))))
  refine hK1 _ _ ?_
  try clear hK1 K1
  refine AWp.seq fun K2 hK2 => ?_
  refine AWp.rs fun K3 hK3 => ?_
  try simp only [go_sem, icast, entD, fb1]
  (repeat (with_reducible refine And.intro ?_ ?_; (first | omega | (intro _; omega) | decide | (exact nfB) | (intro _; exact nfB) | (intro hg; refine ⟨hg, ?_⟩; omega) | (simp; done) | (simp; omega) | (intro hg; simp at hg; done) | (intro hg; simp at hg ⊢; first | omega | exact hg | grind))))
  refine hK3 _ _ ?_
  try clear hK3 K3
  refine AWp.mask [false, true, false, false, false, false, false, false, false, false, true] rfl ?_
  simp only [go_sem]
  refine AWp.cond _ rfl (fun hc0 => ?_) (fun hc0 => ?_)
  · skip
    try simp only [decide_eq_true_eq, decide_eq_false_iff_not, Bool.not_eq_true', Bool.not_eq_false', Bool.and_eq_true, Bool.or_eq_true, Bool.and_eq_false_iff, Bool.or_eq_false_iff, Int.not_lt, Int.not_le, beq_iff_eq, beq_eq_false_iff_ne, ne_eq, Bool.not_eq_true, Bool.not_eq_false] at hc0
    refine AWp.rs fun K4 hK4 => ?_
    try simp only [go_sem, icast, entD, fb1]
    (repeat (with_reducible refine And.intro ?_ ?_; (first | omega | (intro _; omega) | decide | (exact nfB) | (intro _; exact nfB) | (intro hg; refine ⟨hg, ?_⟩; omega) | (simp; done) | (simp; omega) | (intro hg; simp at hg; done) | (intro hg; simp at hg ⊢; first | omega | exact hg | grind))))
    refine hK4 _ _ ?_
    try clear hK4 K4
    refine AWp.ret ?_
    try simp only [go_sem, icast, entD, fb1]
    rw [batE_6 (by omega)]
  · skip
    try simp only [decide_eq_true_eq, decide_eq_false_iff_not, Bool.not_eq_true', Bool.not_eq_false', Bool.and_eq_true, Bool.or_eq_true, Bool.and_eq_false_iff, Bool.or_eq_false_iff, Int.not_lt, Int.not_le, beq_iff_eq, beq_eq_false_iff_ne, ne_eq, Bool.not_eq_true, Bool.not_eq_false] at hc0
    refine AWp.skip ?_
    refine thenQ_n ?_
    refine hK2 _ _ ?_
    try clear hK2 K2
    refine AWp.seq fun K5 hK5 => ?_
    refine AWp.rs fun K6 hK6 => ?_
    try simp only [go_sem, icast, entD, fb1]
    (repeat (with_reducible refine And.intro ?_ ?_; (first | omega | (intro _; omega) | decide | (exact nfB) | (intro _; exact nfB) | (intro hg; refine ⟨hg, ?_⟩; omega) | (simp; done) | (simp; omega) | (intro hg; simp at hg; done) | (intro hg; simp at hg ⊢; first | omega | exact hg | grind))))
    refine hK6 _ _ ?_
    try clear hK6 K6
    refine AWp.mask [true, false, false, false, false, false, false, false, false, false, false, true] rfl ?_
    simp only [go_sem]
    refine AWp.cond _ rfl (fun hc1 => ?_) (fun hc1 => ?_)
    · skip
      try simp only [decide_eq_true_eq, decide_eq_false_iff_not, Bool.not_eq_true', Bool.not_eq_false', Bool.and_eq_true, Bool.or_eq_true, Bool.and_eq_false_iff, Bool.or_eq_false_iff, Int.not_lt, Int.not_le, beq_iff_eq, beq_eq_false_iff_ne, ne_eq, Bool.not_eq_true, Bool.not_eq_false] at hc1
      refine AWp.rs fun K7 hK7 => ?_
      try simp only [go_sem, icast, entD, fb1]
      (repeat (with_reducible refine And.intro ?_ ?_; (first | omega | (intro _; omega) | decide | (exact nfB) | (intro _; exact nfB) | (intro hg; refine ⟨hg, ?_⟩; omega) | (simp; done) | (simp; omega) | (intro hg; simp at hg; done) | (intro hg; simp at hg ⊢; first | omega | exact hg | grind))))
      refine hK7 _ _ ?_
      try clear hK7 K7
      refine AWp.ret ?_
      try simp only [go_sem, icast, entD, fb1]
      rw [batE_1 (by omega) (by omega)]
    · skip
      try simp only [decide_eq_true_eq, decide_eq_false_iff_not, Bool.not_eq_true', Bool.not_eq_false', Bool.and_eq_true, Bool.or_eq_true, Bool.and_eq_false_iff, Bool.or_eq_false_iff, Int.not_lt, Int.not_le, beq_iff_eq, beq_eq_false_iff_ne, ne_eq, Bool.not_eq_true, Bool.not_eq_false] at hc1
      refine AWp.skip ?_
      refine thenQ_n ?_
      refine hK5 _ _ ?_
      try clear hK5 K5
      refine AWp.seq fun K8 hK8 => ?_
      refine AWp.rs fun K9 hK9 => ?_
      try simp only [go_sem, icast, entD, fb1]
      (repeat (with_reducible refine And.intro ?_ ?_; (first | omega | (intro _; omega) | decide | (exact nfB) | (intro _; exact nfB) | (intro hg; refine ⟨hg, ?_⟩; omega) | (simp; done) | (simp; omega) | (intro hg; simp at hg; done) | (intro hg; simp at hg ⊢; first | omega | exact hg | grind))))
      refine hK9 _ _ ?_
      try clear hK9 K9
      refine AWp.block ?_
      refine AWp.mask [false, false, false, true, true, true] rfl ?_
      simp only [go_sem]
      refine AWp.loopS [true, true] [false, false, true] (fun n lc hc => ∃ (k : Nat), n = l.length - k ∧ EqS lc [(27, .d (.int .i64 k))] ∧ EqS hc (⟨[(b1, ⟨2, 1, [[.d (.int .i64 u), .d (.slc 6 (entsD l))]]⟩)], []⟩) ∧ (k ≤ l.length) ∧ (firstE (l.drop k) = firstE l)) rfl ?_ ?_
      · refine ⟨_, 0, rfl, ?_, ?_, ?_, ?_⟩
        · (try simp only [go_sem, icast, entD, fb1]) <;> first | exact ⟨rfl⟩ | (constructor; simp; done)
        · (try simp only [go_sem, icast, entD, fb1]) <;> first | exact ⟨rfl⟩ | (constructor; simp; done)
        all_goals (first | omega | rfl)
      · rintro _ _ _ ⟨k, rfl, ⟨rfl⟩, ⟨rfl⟩, h1, h2⟩
        simp only [go_sem]
        refine AWp.rs fun K10 hK10 => ?_
        try simp only [go_sem, icast, entD, fb1]
        (repeat (with_reducible refine And.intro ?_ ?_; (first | omega | (intro _; omega) | decide | (exact nfB) | (intro _; exact nfB) | (intro hg; refine ⟨hg, ?_⟩; omega) | (simp; done) | (simp; omega) | (intro hg; simp at hg; done) | (intro hg; simp at hg ⊢; first | omega | exact hg | grind))))
        refine hK10 _ _ ?_
        try clear hK10 K10
        refine AWp.seq fun K11 hK11 => ?_
        refine AWp.cond _ rfl (fun hc2 => ?_) (fun hc2 => ?_)
        · skip
          try simp only [decide_eq_true_eq, decide_eq_false_iff_not, Bool.not_eq_true', Bool.not_eq_false', Bool.and_eq_true, Bool.or_eq_true, Bool.and_eq_false_iff, Bool.or_eq_false_iff, Int.not_lt, Int.not_le, beq_iff_eq, beq_eq_false_iff_ne, ne_eq, Bool.not_eq_true, Bool.not_eq_false] at hc2
          have hlt : k < l.length := by omega
          refine AWp.skip ?_
          refine thenQ_n ?_
          refine hK11 _ _ ?_
          try clear hK11 K11
          refine AWp.seq fun K12 hK12 => ?_
          refine AWp.block ?_
          refine AWp.rs fun K13 hK13 => ?_
          try simp only [go_sem, icast, entD, fb1, entsD_get l k _ hlt]
          (repeat (with_reducible refine And.intro ?_ ?_; (first | omega | (intro _; omega) | decide | (exact nfB) | (intro _; exact nfB) | (intro hg; refine ⟨hg, ?_⟩; omega) | (simp; done) | (simp; omega) | (intro hg; simp at hg; done) | (intro hg; simp at hg ⊢; first | omega | exact hg | grind))))
          intro b4
          first | intro fb4 | have fb4 := True.intro
          try simp only [freshL] at fb4
          try simp only [go_sem, icast, entD, fb1, entsD_get l k _ hlt, fb4]
          (repeat (with_reducible refine And.intro ?_ ?_; (first | omega | (intro _; omega) | decide | (exact nfB) | (intro _; exact nfB) | (intro hg; refine ⟨hg, ?_⟩; omega) | (simp; done) | (simp; omega) | (intro hg; simp at hg; done) | (intro hg; simp at hg ⊢; first | omega | exact hg | grind))))
          refine hK13 _ _ ?_
          try clear hK13 K13
          refine AWp.rs fun K14 hK14 => ?_
          try simp only [go_sem, icast, entD, fb1, entsD_get l k _ hlt, fb4]
          (repeat (with_reducible refine And.intro ?_ ?_; (first | omega | (intro _; omega) | decide | (exact nfB) | (intro _; exact nfB) | (intro hg; refine ⟨hg, ?_⟩; omega) | (simp; done) | (simp; omega) | (intro hg; simp at hg; done) | (intro hg; simp at hg ⊢; first | omega | exact hg | grind))))
          refine DW.pcr rfl rfl rfl rfl (Form_e T hL (ok _ (List.getElem_mem hlt))) rfl rfl ?_
          try simp only [go_sem, icast, entD, fb1, entsD_get l k _ hlt, fb4]
          (repeat (with_reducible refine And.intro ?_ ?_; (first | omega | (intro _; omega) | decide | (exact nfB) | (intro _; exact nfB) | (intro hg; refine ⟨hg, ?_⟩; omega) | (simp; done) | (simp; omega) | (intro hg; simp at hg; done) | (intro hg; simp at hg ⊢; first | omega | exact hg | grind))))
          refine hK14 _ _ ?_
          try clear hK14 K14
          refine AWp.mask [false, true, true, true, true] rfl ?_
          simp only [go_sem]
          refine AWp.rs fun K15 hK15 => ?_
          try simp only [go_sem, icast, entD, fb1, entsD_get l k _ hlt, fb4]
          (repeat (with_reducible refine And.intro ?_ ?_; (first | omega | (intro _; omega) | decide | (exact nfB) | (intro _; exact nfB) | (intro hg; refine ⟨hg, ?_⟩; omega) | (simp; done) | (simp; omega) | (intro hg; simp at hg; done) | (intro hg; simp at hg ⊢; first | omega | exact hg | grind))))
          refine hK15 _ _ ?_
          try clear hK15 K15
          refine AWp.cond _ rfl (fun hc3 => ?_) (fun hc3 => ?_)
          · skip
            try simp only [decide_eq_true_eq, decide_eq_false_iff_not, Bool.not_eq_true', Bool.not_eq_false', Bool.and_eq_true, Bool.or_eq_true, Bool.and_eq_false_iff, Bool.or_eq_false_iff, Int.not_lt, Int.not_le, beq_iff_eq, beq_eq_false_iff_ne, ne_eq, Bool.not_eq_true, Bool.not_eq_false] at hc3
            refine AWp.rs fun K16 hK16 => ?_
            try simp only [go_sem, icast, entD, fb1, entsD_get l k _ hlt, fb4]
            (repeat (with_reducible refine And.intro ?_ ?_; (first | omega | (intro _; omega) | decide | (exact nfB) | (intro _; exact nfB) | (intro hg; refine ⟨hg, ?_⟩; omega) | (simp; done) | (simp; omega) | (intro hg; simp at hg; done) | (intro hg; simp at hg ⊢; first | omega | exact hg | grind))))
            refine hK16 _ _ ?_
            try clear hK16 K16
            refine AWp.mask [true] rfl ?_
            simp only [go_sem]
            refine AWp.ret ?_
            try simp only [go_sem, icast, entD, fb1, entsD_get l k _ hlt, fb4]
            rw [batE_t (by omega) (by omega), ← h2, first_t hlt hc3]
          · skip
            try simp only [decide_eq_true_eq, decide_eq_false_iff_not, Bool.not_eq_true', Bool.not_eq_false', Bool.and_eq_true, Bool.or_eq_true, Bool.and_eq_false_iff, Bool.or_eq_false_iff, Int.not_lt, Int.not_le, beq_iff_eq, beq_eq_false_iff_ne, ne_eq, Bool.not_eq_true, Bool.not_eq_false] at hc3
            refine AWp.skip ?_
            refine blkQ_n (thenQ_n ?_)
            refine hK12 _ _ ?_
            try clear hK12 K12
            refine AWp.rk fun K17 hK17 => ?_
            try simp only [go_sem, icast, entD, fb1, entsD_get l k _ hlt, fb4]
            (repeat (with_reducible refine And.intro ?_ ?_; (first | omega | (intro _; omega) | decide | (exact nfB) | (intro _; exact nfB) | (intro hg; refine ⟨hg, ?_⟩; omega) | (simp; done) | (simp; omega) | (intro hg; simp at hg; done) | (intro hg; simp at hg ⊢; first | omega | exact hg | grind))))
            refine hK17 _ _ ?_
            try clear hK17 K17
            refine thenQ_n ?_
            refine EndS.mk [false, true, true] [false, false, false, true] [b4] [] [b1] [] rfl ?_ ?_
            · (try simp only [go_sem, icast, entD, fb1, entsD_get l k _ hlt, fb4]) <;> try rfl
            refine .e ⟨_, ?_, k + 1, rfl, ?_, ?_, ?_, ?_⟩
            · first | omega | (simp; omega) | (grind)
            · (try simp only [go_sem, icast, entD, fb1, entsD_get l k _ hlt, fb4]) <;> first | exact ⟨rfl⟩ | (constructor; simp; done)
            · (try simp only [go_sem, icast, entD, fb1, entsD_get l k _ hlt, fb4]) <;> first | exact ⟨rfl⟩ | (constructor; simp; done)
            · omega
            · rw [← first_f hlt hc3]; exact h2
        · skip
          try simp only [decide_eq_true_eq, decide_eq_false_iff_not, Bool.not_eq_true', Bool.not_eq_false', Bool.and_eq_true, Bool.or_eq_true, Bool.and_eq_false_iff, Bool.or_eq_false_iff, Int.not_lt, Int.not_le, beq_iff_eq, beq_eq_false_iff_ne, ne_eq, Bool.not_eq_true, Bool.not_eq_false] at hc2
          refine AWp.exit ?_
          refine thenQ_e (thenQ_e (blkQ_e (thenQ_n ?_)))
          refine hK8 _ _ ?_
          try clear hK8 K8
          refine AWp.mask [] rfl ?_
          simp only [go_sem]
          refine AWp.rs fun K18 hK18 => ?_
          try simp only [go_sem, icast, entD, fb1]
          (repeat (with_reducible refine And.intro ?_ ?_; (first | omega | (intro _; omega) | decide | (exact nfB) | (intro _; exact nfB) | (intro hg; refine ⟨hg, ?_⟩; omega) | (simp; done) | (simp; omega) | (intro hg; simp at hg; done) | (intro hg; simp at hg ⊢; first | omega | exact hg | grind))))
          refine hK18 _ _ ?_
          try clear hK18 K18
          refine AWp.ret ?_
          try simp only [go_sem, icast, entD, fb1]
          rw [batE_t (by omega) (by omega), ← h2, first_end (by omega)]
set_option maxRecDepth 4000 in
set_option maxHeartbeats 1000000 in
theorem BatchFault_c (T : Tbl) (hL : LibT T) (u : Int) (l : List Ent) (ok : ∀ x ∈ l, EntOk x) : PC Tryd.prog T 72 [.agg [.d (.int .i64 u), .d (.slc 6 (entsD l))]] (.d (.int .i64 (batE u l))) := by
  refine ⟨Tryd.call72, PCall.enterS Tryd.func72 rfl Tryd.ntmps72 rfl fun hb => ?_⟩
  simp only [go_sem, Tryd.results72]
  refine AWp.rs fun K1 hK1 => ?_
  try simp only [go_sem, icast, entD]
  (repeat (with_reducible refine And.intro ?_ ?_; (first | omega | (intro _; omega) | decide | (exact nfB) | (intro _; exact nfB) | (intro hg; refine ⟨hg, ?_⟩; omega) | (simp; done) | (simp; omega) | (intro hg; simp at hg; done) | (intro hg; simp at hg ⊢; first | omega | exact hg | grind))))
  intro b1
  first | intro fb1 | have fb1 := True.intro
  try simp only [freshL] at fb1
  try simp only [go_sem, icast, entD, fb1]
  (repeat (with_reducible refine And.intro ?_ ?_; (first | omega | (intro _; omega) | decide | (exact nfB) | (intro _; exact nfB) | (intro hg; refine ⟨hg, ?_⟩; omega) | (simp; done) | (simp; omega) | (intro hg; simp at hg; done) | (intro hg; simp at hg ⊢; first | omega | exact hg | grind))))
  refine hK1 _ _ ?_
  try clear hK1 K1
  refine AWp.seq fun K2 hK2 => ?_
  refine AWp.rs fun K3 hK3 => ?_
  try simp only [go_sem, icast, entD, fb1]
  (repeat (with_reducible refine And.intro ?_ ?_; (first | omega | (intro _; omega) | decide | (exact nfB) | (intro _; exact nfB) | (intro hg; refine ⟨hg, ?_⟩; omega) | (simp; done) | (simp; omega) | (intro hg; simp at hg; done) | (intro hg; simp at hg ⊢; first | omega | exact hg | grind))))
  refine DW.pcr rfl rfl rfl rfl (In_c T _ _ _) rfl rfl ?_
  try simp only [go_sem, icast, entD, fb1]
  (repeat (with_reducible refine And.intro ?_ ?_; (first | omega | (intro _; omega) | decide | (exact nfB) | (intro _; exact nfB) | (intro hg; refine ⟨hg, ?_⟩; omega) | (simp; done) | (simp; omega) | (intro hg; simp at hg; done) | (intro hg; simp at hg ⊢; first | omega | exact hg | grind))))
  refine hK3 _ _ ?_
  try clear hK3 K3
  refine AWp.mask [false, true, false, false, false, false, true] rfl ?_
  simp only [go_sem]
  refine AWp.cond _ rfl (fun hc0 => ?_) (fun hc0 => ?_)
  · skip
    try simp only [decide_eq_true_eq, decide_eq_false_iff_not, Bool.not_eq_true', Bool.not_eq_false', Bool.and_eq_true, Bool.or_eq_true, Bool.and_eq_false_iff, Bool.or_eq_false_iff, Int.not_lt, Int.not_le, beq_iff_eq, beq_eq_false_iff_ne, ne_eq, Bool.not_eq_true, Bool.not_eq_false] at hc0
    refine AWp.rs fun K4 hK4 => ?_
    try simp only [go_sem, icast, entD, fb1]
    (repeat (with_reducible refine And.intro ?_ ?_; (first | omega | (intro _; omega) | decide | (exact nfB) | (intro _; exact nfB) | (intro hg; refine ⟨hg, ?_⟩; omega) | (simp; done) | (simp; omega) | (intro hg; simp at hg; done) | (intro hg; simp at hg ⊢; first | omega | exact hg | grind))))
    refine hK4 _ _ ?_
    try clear hK4 K4
    refine AWp.ret ?_
    try simp only [go_sem, icast, entD, fb1]
    rw [batE_6 (by omega)]
  · skip
    try simp only [decide_eq_true_eq, decide_eq_false_iff_not, Bool.not_eq_true', Bool.not_eq_false', Bool.and_eq_true, Bool.or_eq_true, Bool.and_eq_false_iff, Bool.or_eq_false_iff, Int.not_lt, Int.not_le, beq_iff_eq, beq_eq_false_iff_ne, ne_eq, Bool.not_eq_true, Bool.not_eq_false] at hc0
    refine AWp.skip ?_
    refine thenQ_n ?_
    refine hK2 _ _ ?_
    try clear hK2 K2
    refine AWp.seq fun K5 hK5 => ?_
    refine AWp.rs fun K6 hK6 => ?_
    try simp only [go_sem, icast, entD, fb1]
    (repeat (with_reducible refine And.intro ?_ ?_; (first | omega | (intro _; omega) | decide | (exact nfB) | (intro _; exact nfB) | (intro hg; refine ⟨hg, ?_⟩; omega) | (simp; done) | (simp; omega) | (intro hg; simp at hg; done) | (intro hg; simp at hg ⊢; first | omega | exact hg | grind))))
    refine DW.pcr rfl rfl rfl rfl (In_c T _ _ _) rfl rfl ?_
    try simp only [go_sem, icast, entD, fb1]
    (repeat (with_reducible refine And.intro ?_ ?_; (first | omega | (intro _; omega) | decide | (exact nfB) | (intro _; exact nfB) | (intro hg; refine ⟨hg, ?_⟩; omega) | (simp; done) | (simp; omega) | (intro hg; simp at hg; done) | (intro hg; simp at hg ⊢; first | omega | exact hg | grind))))
    refine hK6 _ _ ?_
    try clear hK6 K6
    refine AWp.mask [true, false, false, false, false, false, true] rfl ?_
    simp only [go_sem]
    refine AWp.cond _ rfl (fun hc1 => ?_) (fun hc1 => ?_)
    · skip
      try simp only [decide_eq_true_eq, decide_eq_false_iff_not, Bool.not_eq_true', Bool.not_eq_false', Bool.and_eq_true, Bool.or_eq_true, Bool.and_eq_false_iff, Bool.or_eq_false_iff, Int.not_lt, Int.not_le, beq_iff_eq, beq_eq_false_iff_ne, ne_eq, Bool.not_eq_true, Bool.not_eq_false] at hc1
      refine AWp.rs fun K7 hK7 => ?_
      try simp only [go_sem, icast, entD, fb1]
      (repeat (with_reducible refine And.intro ?_ ?_; (first | omega | (intro _; omega) | decide | (exact nfB) | (intro _; exact nfB) | (intro hg; refine ⟨hg, ?_⟩; omega) | (simp; done) | (simp; omega) | (intro hg; simp at hg; done) | (intro hg; simp at hg ⊢; first | omega | exact hg | grind))))
      refine hK7 _ _ ?_
      try clear hK7 K7
      refine AWp.ret ?_
      try simp only [go_sem, icast, entD, fb1]
      rw [batE_1 (by omega) (by omega)]
    · skip
      try simp only [decide_eq_true_eq, decide_eq_false_iff_not, Bool.not_eq_true', Bool.not_eq_false', Bool.and_eq_true, Bool.or_eq_true, Bool.and_eq_false_iff, Bool.or_eq_false_iff, Int.not_lt, Int.not_le, beq_iff_eq, beq_eq_false_iff_ne, ne_eq, Bool.not_eq_true, Bool.not_eq_false] at hc1
      refine AWp.skip ?_
      refine thenQ_n ?_
      refine hK5 _ _ ?_
      try clear hK5 K5
      refine AWp.seq fun K8 hK8 => ?_
      refine AWp.rs fun K9 hK9 => ?_
      try simp only [go_sem, icast, entD, fb1]
      (repeat (with_reducible refine And.intro ?_ ?_; (first | omega | (intro _; omega) | decide | (exact nfB) | (intro _; exact nfB) | (intro hg; refine ⟨hg, ?_⟩; omega) | (simp; done) | (simp; omega) | (intro hg; simp at hg; done) | (intro hg; simp at hg ⊢; first | omega | exact hg | grind))))
      refine hK9 _ _ ?_
      try clear hK9 K9
      refine AWp.block ?_
      refine AWp.mask [true, true] rfl ?_
      simp only [go_sem]
      refine AWp.loopS [true] [false, true] (fun n lc hc => ∃ (k : Nat), n = l.length - k ∧ EqS lc [(3, .d (.int .i64 k))] ∧ EqS hc (⟨[(b1, ⟨2, 1, [[.d (.int .i64 u), .d (.slc 6 (entsD l))]]⟩)], []⟩) ∧ (k ≤ l.length) ∧ (firstE (l.drop k) = firstE l)) rfl ?_ ?_
      · refine ⟨_, 0, rfl, ?_, ?_, ?_, ?_⟩
        · (try simp only [go_sem, icast, entD, fb1]) <;> first | exact ⟨rfl⟩ | (constructor; simp; done)
        · (try simp only [go_sem, icast, entD, fb1]) <;> first | exact ⟨rfl⟩ | (constructor; simp; done)
        all_goals (first | omega | rfl)
      · rintro _ _ _ ⟨k, rfl, ⟨rfl⟩, ⟨rfl⟩, h1, h2⟩
        simp only [go_sem]
        refine AWp.seq fun K10 hK10 => ?_
        refine AWp.rs fun K11 hK11 => ?_
        try simp only [go_sem, icast, entD, fb1]
        (repeat (with_reducible refine And.intro ?_ ?_; (first | omega | (intro _; omega) | decide | (exact nfB) | (intro _; exact nfB) | (intro hg; refine ⟨hg, ?_⟩; omega) | (simp; done) | (simp; omega) | (intro hg; simp at hg; done) | (intro hg; simp at hg ⊢; first | omega | exact hg | grind))))
        refine hK11 _ _ ?_
        try clear hK11 K11
        refine AWp.mask [true, true, false, false, false, false, true] rfl ?_
        simp only [go_sem]
        refine AWp.cond _ rfl (fun hc2 => ?_) (fun hc2 => ?_)
        · skip
          try simp only [decide_eq_true_eq, decide_eq_false_iff_not, Bool.not_eq_true', Bool.not_eq_false', Bool.and_eq_true, Bool.or_eq_true, Bool.and_eq_false_iff, Bool.or_eq_false_iff, Int.not_lt, Int.not_le, beq_iff_eq, beq_eq_false_iff_ne, ne_eq, Bool.not_eq_true, Bool.not_eq_false] at hc2
          have hlt : k < l.length := by omega
          refine AWp.skip ?_
          refine thenQ_n ?_
          refine hK10 _ _ ?_
          try clear hK10 K10
          refine AWp.seq fun K12 hK12 => ?_
          refine AWp.block ?_
          refine AWp.rs fun K13 hK13 => ?_
          try simp only [go_sem, icast, entD, fb1, entsD_get l k _ hlt]
          (repeat (with_reducible refine And.intro ?_ ?_; (first | omega | (intro _; omega) | decide | (exact nfB) | (intro _; exact nfB) | (intro hg; refine ⟨hg, ?_⟩; omega) | (simp; done) | (simp; omega) | (intro hg; simp at hg; done) | (intro hg; simp at hg ⊢; first | omega | exact hg | grind))))
          refine DW.pcr rfl rfl rfl rfl (EntryFault_e T hL (ok _ (List.getElem_mem hlt))) rfl rfl ?_
          try simp only [go_sem, icast, entD, fb1, entsD_get l k _ hlt]
          (repeat (with_reducible refine And.intro ?_ ?_; (first | omega | (intro _; omega) | decide | (exact nfB) | (intro _; exact nfB) | (intro hg; refine ⟨hg, ?_⟩; omega) | (simp; done) | (simp; omega) | (intro hg; simp at hg; done) | (intro hg; simp at hg ⊢; first | omega | exact hg | grind))))
          refine hK13 _ _ ?_
          try clear hK13 K13
          refine AWp.mask [true, true, true] rfl ?_
          simp only [go_sem]
          refine AWp.rs fun K14 hK14 => ?_
          try simp only [go_sem, icast, entD, fb1, entsD_get l k _ hlt]
          (repeat (with_reducible refine And.intro ?_ ?_; (first | omega | (intro _; omega) | decide | (exact nfB) | (intro _; exact nfB) | (intro hg; refine ⟨hg, ?_⟩; omega) | (simp; done) | (simp; omega) | (intro hg; simp at hg; done) | (intro hg; simp at hg ⊢; first | omega | exact hg | grind))))
          refine hK14 _ _ ?_
          try clear hK14 K14
          refine AWp.cond _ rfl (fun hc3 => ?_) (fun hc3 => ?_)
          · skip
            try simp only [decide_eq_true_eq, decide_eq_false_iff_not, Bool.not_eq_true', Bool.not_eq_false', Bool.and_eq_true, Bool.or_eq_true, Bool.and_eq_false_iff, Bool.or_eq_false_iff, Int.not_lt, Int.not_le, beq_iff_eq, beq_eq_false_iff_ne, ne_eq, Bool.not_eq_true, Bool.not_eq_false] at hc3
            refine AWp.rs fun K15 hK15 => ?_
            try simp only [go_sem, icast, entD, fb1, entsD_get l k _ hlt]
            (repeat (with_reducible refine And.intro ?_ ?_; (first | omega | (intro _; omega) | decide | (exact nfB) | (intro _; exact nfB) | (intro hg; refine ⟨hg, ?_⟩; omega) | (simp; done) | (simp; omega) | (intro hg; simp at hg; done) | (intro hg; simp at hg ⊢; first | omega | exact hg | grind))))
            refine hK15 _ _ ?_
            try clear hK15 K15
            refine AWp.mask [false, true] rfl ?_
            simp only [go_sem]
            refine AWp.ret ?_
            try simp only [go_sem, icast, entD, fb1, entsD_get l k _ hlt]
            rw [batE_t (by omega) (by omega), ← h2, first_t hlt hc3]
          · skip
            try simp only [decide_eq_true_eq, decide_eq_false_iff_not, Bool.not_eq_true', Bool.not_eq_false', Bool.and_eq_true, Bool.or_eq_true, Bool.and_eq_false_iff, Bool.or_eq_false_iff, Int.not_lt, Int.not_le, beq_iff_eq, beq_eq_false_iff_ne, ne_eq, Bool.not_eq_true, Bool.not_eq_false] at hc3
            refine AWp.skip ?_
            refine blkQ_n (thenQ_n ?_)
            refine hK12 _ _ ?_
            try clear hK12 K12
            refine AWp.rk fun K16 hK16 => ?_
            try simp only [go_sem, icast, entD, fb1, entsD_get l k _ hlt]
            (repeat (with_reducible refine And.intro ?_ ?_; (first | omega | (intro _; omega) | decide | (exact nfB) | (intro _; exact nfB) | (intro hg; refine ⟨hg, ?_⟩; omega) | (simp; done) | (simp; omega) | (intro hg; simp at hg; done) | (intro hg; simp at hg ⊢; first | omega | exact hg | grind))))
            refine hK16 _ _ ?_
            try clear hK16 K16
            refine thenQ_n ?_
            refine EndS.mk [true] [false, true] [] [] [b1] [] rfl ?_ ?_
            · (try simp only [go_sem, icast, entD, fb1, entsD_get l k _ hlt]) <;> try rfl
            refine .e ⟨_, ?_, k + 1, rfl, ?_, ?_, ?_, ?_⟩
            · first | omega | (simp; omega) | (grind)
            · (try simp only [go_sem, icast, entD, fb1, entsD_get l k _ hlt]) <;> first | exact ⟨rfl⟩ | (constructor; simp; done)
            · (try simp only [go_sem, icast, entD, fb1, entsD_get l k _ hlt]) <;> first | exact ⟨rfl⟩ | (constructor; simp; done)
            · omega
            · rw [← first_f hlt hc3]; exact h2
        · skip
          try simp only [decide_eq_true_eq, decide_eq_false_iff_not, Bool.not_eq_true', Bool.not_eq_false', Bool.and_eq_true, Bool.or_eq_true, Bool.and_eq_false_iff, Bool.or_eq_false_iff, Int.not_lt, Int.not_le, beq_iff_eq, beq_eq_false_iff_ne, ne_eq, Bool.not_eq_true, Bool.not_eq_false] at hc2
          refine AWp.exit ?_
          refine thenQ_e (thenQ_e (blkQ_e (thenQ_n ?_)))
          refine hK8 _ _ ?_
          try clear hK8 K8
          refine AWp.rs fun K17 hK17 => ?_
          try simp only [go_sem, icast, entD, fb1]
          (repeat (with_reducible refine And.intro ?_ ?_; (first | omega | (intro _; omega) | decide | (exact nfB) | (intro _; exact nfB) | (intro hg; refine ⟨hg, ?_⟩; omega) | (simp; done) | (simp; omega) | (intro hg; simp at hg; done) | (intro hg; simp at hg ⊢; first | omega | exact hg | grind))))
          refine hK17 _ _ ?_
          try clear hK17 K17
          refine AWp.ret ?_
          try simp only [go_sem, icast, entD, fb1]
          rw [batE_t (by omega) (by omega), ← h2, first_end (by omega)]
set_option maxRecDepth 4000 in
set_option maxHeartbeats 1000000 in
theorem entries_c (T : Tbl) (l : List Ent) (hz : l.length * 72 ≤ 140737488355328) : PC Tryd.prog T 27 [.d (.slc 6 (entsD l))] (.d (.slc 6 (entsD l))) := by
  refine ⟨Tryd.call27, PCall.enterS Tryd.func27 rfl Tryd.ntmps27 rfl fun hb => ?_⟩
  simp only [go_sem, Tryd.results27]
  refine AWp.rs fun K1 hK1 => ?_
  try simp only [go_sem]
  (repeat (with_reducible refine And.intro ?_ ?_; (first | omega | (intro _; omega) | decide | (exact nfB) | (intro _; exact nfB) | (intro hg; refine ⟨hg, ?_⟩; omega) | (simp; done) | (simp; omega) | (intro hg; simp at hg; done) | (intro hg; simp at hg ⊢; first | omega | exact hg | grind))))
  refine hK1 _ _ ?_
  try clear hK1 K1
  refine AWp.rs fun K2 hK2 => ?_
  try simp only [go_sem]
  (repeat (with_reducible refine And.intro ?_ ?_; (first | omega | (intro _; omega) | decide | (exact nfB) | (intro _; exact nfB) | (intro hg; refine ⟨hg, ?_⟩; omega) | (simp; done) | (simp; omega) | (intro hg; simp at hg; done) | (intro hg; simp at hg ⊢; first | omega | exact hg | grind))))
  refine DW.appNil rfl rfl rfl rfl (show slI Tryd.prog 23 = some (56, 6, 72) by simp only [go_sem]) rfl rfl (by first | exact .inl rfl | exact .inr rfl) (by (try simp only [go_sem]); omega) (by (try simp only [go_sem]); omega) fun t1 ft1 => ?_
  try simp only [freshT] at ft1
  try simp only [go_sem, ft1]
  (repeat (with_reducible refine And.intro ?_ ?_; (first | omega | (intro _; omega) | decide | (exact nfB) | (intro _; exact nfB) | (intro hg; refine ⟨hg, ?_⟩; omega) | (simp; done) | (simp; omega) | (intro hg; simp at hg; done) | (intro hg; simp at hg ⊢; first | omega | exact hg | grind))))
  refine hK2 _ _ ?_
  try clear hK2 K2
  refine AWp.ret ?_
  try simp only [go_sem, ft1]
  try simp [LeA, LeD]
set_option maxRecDepth 4000 in
set_option maxHeartbeats 1000000 in
theorem batch_c (T : Tbl) (u : Int) (l : List Ent) (hz : l.length * 72 ≤ 140737488355328) : PC Tryd.prog T 21 [.agg [.d (.int .i64 u), .d (.slc 6 (entsD l))]] (.agg [.d (.int .i64 u), .d (.slc 6 (entsD l))]) := by
  refine ⟨Tryd.call21, PCall.enterS Tryd.func21 rfl Tryd.ntmps21 rfl fun hb => ?_⟩
  simp only [go_sem, Tryd.results21]
  refine AWp.rs fun K1 hK1 => ?_
  try simp only [go_sem]
  (repeat (with_reducible refine And.intro ?_ ?_; (first | omega | (intro _; omega) | decide | (exact nfB) | (intro _; exact nfB) | (intro hg; refine ⟨hg, ?_⟩; omega) | (simp; done) | (simp; omega) | (intro hg; simp at hg; done) | (intro hg; simp at hg ⊢; first | omega | exact hg | grind))))
  intro b1
  first | intro fb1 | have fb1 := True.intro
  try simp only [freshL] at fb1
  try simp only [go_sem, fb1]
  (repeat (with_reducible refine And.intro ?_ ?_; (first | omega | (intro _; omega) | decide | (exact nfB) | (intro _; exact nfB) | (intro hg; refine ⟨hg, ?_⟩; omega) | (simp; done) | (simp; omega) | (intro hg; simp at hg; done) | (intro hg; simp at hg ⊢; first | omega | exact hg | grind))))
  intro b2
  first | intro fb2 | have fb2 := True.intro
  try simp only [freshL] at fb2
  try simp only [go_sem, fb1, fb2]
  (repeat (with_reducible refine And.intro ?_ ?_; (first | omega | (intro _; omega) | decide | (exact nfB) | (intro _; exact nfB) | (intro hg; refine ⟨hg, ?_⟩; omega) | (simp; done) | (simp; omega) | (intro hg; simp at hg; done) | (intro hg; simp at hg ⊢; first | omega | exact hg | grind))))
  refine hK1 _ _ ?_
  try clear hK1 K1
  refine AWp.ds true [0, 1, 2, 3, 4, 5, 6] rfl (by kernel_rfl) fun K2 hK2 => ?_
  try simp only [go_sem, fb1, fb2]
  (repeat (with_reducible refine And.intro ?_ ?_; (first | omega | (intro _; omega) | decide | (exact nfB) | (intro _; exact nfB) | (intro hg; refine ⟨hg, ?_⟩; omega) | (simp; done) | (simp; omega) | (intro hg; simp at hg; done) | (intro hg; simp at hg ⊢; first | omega | exact hg | grind))))
  refine DW.pcr rfl rfl rfl rfl (entries_c T _ hz) rfl rfl ?_
  try simp only [go_sem, fb1, fb2]
  (repeat (with_reducible refine And.intro ?_ ?_; (first | omega | (intro _; omega) | decide | (exact nfB) | (intro _; exact nfB) | (intro hg; refine ⟨hg, ?_⟩; omega) | (simp; done) | (simp; omega) | (intro hg; simp at hg; done) | (intro hg; simp at hg ⊢; first | omega | exact hg | grind))))
  refine hK2 _ _ ?_
  try clear hK2 K2
  refine AWp.mask [false, false, true] rfl ?_
  simp only [go_sem]
  refine AWp.ret ?_
  try simp only [go_sem, fb1, fb2]
  try simp [LeA, LeL, LeD]
end Go.Proofs.YthhfbolhlbgbgaaDoor

namespace Go.Proofs.YthhfbolhlbgbgaaDoor
open Go.RowKit Go.ChangeShapes Go.WideShapes Go.ChangeAt
set_option linter.unusedSimpArgs false
set_option linter.unusedVariables false
section
variable {H : Type}
/-- a datum of bulk at most 1048576 -/
structure Tiny (d : DataW H) : Prop where
  le : Rows.uptoBulk d ≤ 1048576
theorem bulk_mem : ∀ {ds : List (DataW H)} {d : DataW H}, d ∈ ds → Rows.uptoBulk d ≤ Rows.uptoBulkAll ds
  | x :: r, d, h => by
    rw [Rows.uptoBulkAll]
    rcases List.mem_cons.1 h with e | e
    · subst e; omega
    · have := bulk_mem e; omega
theorem bulk_pos (d : DataW H) : 1 ≤ Rows.uptoBulk d := by
  cases d with
  | lit l => cases l <;> simp [Rows.uptoBulk]
  | _ => simp [Rows.uptoBulk]
theorem bulk_len : ∀ ds : List (DataW H), ds.length ≤ Rows.uptoBulkAll ds
  | [] => by simp
  | x :: r => by
    have := bulk_len r
    have := bulk_pos x
    rw [Rows.uptoBulkAll, List.length_cons]
    omega
theorem tinies {ds : List (DataW H)} (h : Rows.uptoSmall H ds = true) (j : Nat) (d : DataW H) (hd : ds[j]? = some d) : Tiny d := by
  have h' : Rows.uptoBulkAll ds ≤ 1048576 := of_decide_eq_true h
  exact ⟨Nat.le_trans (bulk_mem (List.mem_of_getElem? hd)) h'⟩
theorem Tiny.part {ds : List (DataW H)} (h : Tiny (.agg ds)) {j : Nat} {d : DataW H} (hd : ds[j]? = some d) : Tiny d := by
  have h := h.le
  rw [Rows.uptoBulk] at h
  constructor
  have := bulk_mem (List.mem_of_getElem? hd)
  omega
theorem Tiny.elem {elems spare : List (DataW H)} (h : Tiny (.slice elems spare)) {d : DataW H} (hd : d ∈ elems) : Tiny d := by
  have h := h.le
  rw [Rows.uptoBulk] at h
  constructor
  have := bulk_mem hd
  omega
theorem Tiny.len {elems spare : List (DataW H)} (h : Tiny (.slice elems spare)) : elems.length ≤ 1048576 := by
  have h := h.le
  rw [Rows.uptoBulk] at h
  have := bulk_len elems
  omega
theorem Tiny.text {l : List UInt8} (h : Tiny (.lit (.string l) : DataW H)) : l.length ≤ 1048576 := by
  have h := h.le
  rw [Rows.uptoBulk] at h
  omega
end
end Go.Proofs.YthhfbolhlbgbgaaDoor

namespace Go.Proofs.YthhfbolhlbgbgaaDoor
open Go.RowKit
set_option linter.unusedSimpArgs false
set_option linter.unusedVariables false
open Go.ChangeShapes Go.WideShapes Go.ChangeAt
theorem addAdd (a : Addr) (i j : Nat) : (a.add i).add j = a.add (i + j) := by
  unfold Addr.add
  by_cases hi : i = 0 <;> by_cases hj : j = 0 <;> simp [hi, hj, Nat.add_assoc]
theorem addPlain (b off j : Nat) : (⟨b, off, none⟩ : Addr).add j = ⟨b, off + j, none⟩ := by
  unfold Addr.add
  split
  · subst_vars; simp
  · rfl
section
variable {H : Type} {enc : TypeId × Value → H} {P : Program} {W : World}
def frzW (W : World) : Frz := fun b o => W.cell? ⟨b, o, none⟩
def VDs (F : Frz) (ds : List D) (cs : List Value) : Prop := cs.length = ds.length ∧ ∀ (j : Nat) (d : D), ds[j]? = some d → ∃ v, cs[j]? = some v ∧ VD F d v
/-- values of a type, read at no more than so many levels, are data -/
def DecR (enc : TypeId × Value → H) (P : Program) (W : World) {α : Type} (e : α → List D) (R : α → DataW H → Prop) (t : TypeId) (fuel : Nat) : Prop :=
  ∀ (m : Nat), m ≤ fuel → ∀ (cs : List Value) (y : DataW H × List MemPlace), DataW.trod enc P W 0 (fun _ => true) true m t cs = some y → ∃ a : α, VDs (frzW W) (e a) cs ∧ R a y.1
def Dec (enc : TypeId × Value → H) (P : Program) (W : World) {α : Type} (e : α → List D) (sz : α → Nat) (t : TypeId) (fuel : Nat) : Prop := DecR enc P W e (fun a d => sz a ≤ Rows.uptoBulk d) t fuel
/-- a list, and what it was read from -/
inductive RL {α : Type} (R : α → DataW H → Prop) : List α → DataW H → Prop where
  | nil (d : DataW H) (h : ∀ elems spare, d ≠ .slice elems spare) : RL R [] d
  | slice (l : List α) (elems spare : List (DataW H)) (hl : l.length = elems.length) (h : ∀ (i : Nat) (x : α) (z : DataW H), l[i]? = some x → elems[i]? = some z → R x z) : RL R l (.slice elems spare)
theorem DecR.mono {α : Type} {e : α → List D} {R R' : α → DataW H → Prop} {t f : Nat} (d : DecR enc P W e R t f) (h : ∀ a x, R a x → R' a x) : DecR enc P W e R' t f := fun m hm cs y hy => by
  obtain ⟨a, h1, h2⟩ := d m hm cs y hy
  exact ⟨a, h1, h _ _ h2⟩
theorem VDs.one {F : Frz} {d : D} {v : Value} (h : VD F d v) : VDs F [d] [v] := ⟨rfl, fun j x hx => by
  cases j with
  | zero => simp at hx; subst hx; exact ⟨v, rfl, h⟩
  | succ j => simp at hx⟩
theorem VDs.append {F : Frz} {a b : List D} {cs : List Value} (h1 : VDs F a (cs.take a.length)) (h2 : VDs F b (cs.drop a.length)) : VDs F (a ++ b) cs := by
  have e1 := h1.1
  have e2 := h2.1
  simp at e1 e2
  have hle : a.length ≤ cs.length := by omega
  refine ⟨by simp; omega, fun j d hd => ?_⟩
  rcases Nat.lt_or_ge j a.length with hj | hj
  · rw [List.getElem?_append_left hj] at hd
    obtain ⟨v, g1, g2⟩ := h1.2 j d hd
    rw [List.getElem?_take_of_lt hj] at g1
    exact ⟨v, g1, g2⟩
  · rw [List.getElem?_append_right hj] at hd
    obtain ⟨v, g1, g2⟩ := h2.2 _ d hd
    rw [List.getElem?_drop] at g1
    exact ⟨v, by rw [← g1]; congr 1; omega, g2⟩
theorem Dec.le {α : Type} {e : α → List D} {sz : α → Nat} {t f f' : Nat} (d : Dec enc P W e sz t f) (h : f' ≤ f) : Dec enc P W e sz t f' := fun m hm => d m (Nat.le_trans hm h)
theorem Dec.int {t : TypeId} {k : IntKind} {f : Nat} (ht : P.underlying t = some (.int k)) : Dec enc P W (fun n : Int => [.int k n]) (fun _ => 1) t f := fun m _ cs y h => by
  obtain ⟨n, e, _⟩ := DataW.trod_int ht h
  exact ⟨n, by rw [e]; exact .one (.int k n), bulk_pos _⟩
theorem Dec.bool {t : TypeId} {f : Nat} (ht : P.underlying t = some .bool) : Dec enc P W (fun b : Bool => [.bool b]) (fun _ => 1) t f := fun m _ cs y h => by
  obtain ⟨n, e, _⟩ := DataW.trod_bool ht h
  exact ⟨n, by rw [e]; exact .one (.bool n), bulk_pos _⟩
theorem Dec.str {t : TypeId} {f : Nat} (ht : P.underlying t = some .string) : Dec enc P W (fun s : List UInt8 => [.str s]) (fun s => s.length + 1) t f := fun m _ cs y h => by
  obtain ⟨s, e, q, hm⟩ := DataW.trod_string ht h
  exact ⟨s.data.toList, by rw [e]; exact .one (.str s hm), by show _ ≤ Rows.uptoBulk y.1; rw [q, Rows.uptoBulk]; exact Nat.le_refl _⟩
theorem sum_le {α : Type} (l : List α) (sz : α → Nat) (ds : List (DataW H)) (hl : l.length = ds.length) (h : ∀ (i : Nat) (a : α) (d : DataW H), l[i]? = some a → ds[i]? = some d → sz a ≤ Rows.uptoBulk d) : (l.map sz).sum ≤ Rows.uptoBulkAll ds := by
  induction l generalizing ds with
  | nil => simp
  | cons a l ih =>
    cases ds with
    | nil => simp at hl
    | cons d ds =>
      have h1 := h 0 a d rfl rfl
      have h2 := ih ds (by simpa using hl) fun i a d e1 e2 => h (i + 1) a d (by simpa using e1) (by simpa using e2)
      simp only [List.map_cons, List.sum_cons, Rows.uptoBulkAll]
      omega
theorem DecR.slc {α : Type} {e : α → List D} {R : α → DataW H → Prop} {t el k f : Nat} (d : DecR enc P W e R el f) (ht : P.underlying t = some (.slice el)) (hc : P.cellsOf el = k) (hk : ∀ a, (e a).length = k) (hp : 0 < k) : DecR enc P W (fun l : List α => [.slc k (l.map e)]) (RL R) t (f + 1) := by
  intro m hm cs y h
  rcases DataW.trod_slice ht h with ⟨hv, hx⟩ | ⟨a, len, cap, elems, rest, n, hn, hv, hx, _, hl, hmx, hlen, hel, _, _⟩
  · exact ⟨[], by rw [hv]; exact .one (.slc0 k none 0 (fun _ => rfl) (by decide)), by rw [hx]; exact .nil _ (fun _ _ h => by cases h)⟩
  · rw [hx]
    have hone : ∀ i, i < len → ∃ x : α, (∀ z, (elems.map (·.1))[i]? = some z → R x z) ∧ ∀ (j : Nat) (z : D), (e x)[j]? = some z → ∃ u, W.cell? (a.add (i * k + j)) = some u ∧ VD (frzW W) z u := by
      intro i hi
      have hi' : i < elems.length := by omega
      have hbn := hel i hi
      rw [List.getElem?_eq_getElem hi', Option.bind_eq_some_iff] at hbn
      obtain ⟨cs', hcs, htr⟩ := hbn
      have hmem : elems[i].1 ∈ elems.map (·.1) := List.mem_map.2 ⟨elems[i], List.getElem_mem hi', rfl⟩
      obtain ⟨x, hx1, hx2⟩ := d n (by omega) _ _ htr
      refine ⟨x, fun z hz => ?_, fun j z hz => ?_⟩
      · rw [List.getElem?_map, List.getElem?_eq_getElem hi'] at hz
        injection hz with hz
        rw [← hz]; exact hx2
      · obtain ⟨_, _, hat⟩ := World.cells?_some hcs
        obtain ⟨u, g1, g2⟩ := hx1.2 j z hz
        have hj : j < k := by rw [← hk x]; exact (List.getElem?_eq_some_iff.1 hz).1
        have := hat j (by rw [hc]; exact hj)
        rw [addAdd, hc] at this
        exact ⟨u, by rw [this, g1], g2⟩
    obtain ⟨l, hll, hlx⟩ : ∃ l : List α, l.length = len ∧ ∀ (i : Nat) (x : α), l[i]? = some x → (∀ z, (elems.map (·.1))[i]? = some z → R x z) ∧ ∀ (j : Nat) (z : D), (e x)[j]? = some z → ∃ u, W.cell? (a.add (i * k + j)) = some u ∧ VD (frzW W) z u := by
      refine ⟨List.ofFn fun i : Fin len => Classical.choose (hone i.1 i.2), by simp, fun i x hx => ?_⟩
      have hi : i < len := by have := (List.getElem?_eq_some_iff.1 hx).1; simpa using this
      rw [List.getElem?_ofFn] at hx
      simp only [hi, dite_true, Option.some.injEq] at hx
      subst hx
      exact Classical.choose_spec (hone i hi)
    refine ⟨l, ?_, ?_⟩
    · rw [hv]
      refine .one ?_
      rcases Nat.eq_zero_or_pos len with h0 | h0
      · have : l = [] := List.eq_nil_of_length_eq_zero (by omega)
        subst this
        rw [h0]
        exact .slc0 k _ cap (fun e => by cases e) hmx
      · obtain ⟨x0, hx0⟩ : ∃ x, l[0]? = some x := ⟨_, List.getElem?_eq_getElem (show 0 < l.length by omega)⟩
        obtain ⟨z, hz⟩ : ∃ z, (e x0)[0]? = some z := ⟨_, List.getElem?_eq_getElem (show 0 < (e x0).length by rw [hk]; exact hp)⟩
        obtain ⟨u, hu, _⟩ := (hlx 0 _ hx0).2 0 z hz
        rw [Nat.zero_mul, Nat.zero_add] at hu
        have hsp := World.cell?_spot hu
        obtain ⟨b, off, sp⟩ := a
        simp [Addr.add] at hsp
        subst hsp
        have hcell : ∀ (i : Nat) (x : α) (j : Nat) (z : D), l[i]? = some x → (e x)[j]? = some z → ∃ u, frzW W b (off + (i * k + j)) = some u ∧ VD (frzW W) z u := fun i x j z e1 e2 => by
          obtain ⟨u, g1, g2⟩ := (hlx i x e1).2 j z e2
          rw [addPlain] at g1
          exact ⟨u, g1, g2⟩
        have := VD.slc (F := frzW W) k (l.map e) b off cap (fun i j => (frzW W b (off + (i * k + j))).getD Go.undef) (by rw [List.length_map]; omega) (by rw [List.length_map]; omega) hmx (fun r hr => by obtain ⟨x, _, rfl⟩ := List.mem_map.1 hr; exact hk x)
          (fun i r j z e1 e2 => by
            rw [List.getElem?_map] at e1
            obtain ⟨x, hx, rfl⟩ := Option.map_eq_some_iff.1 e1
            obtain ⟨u, g1, _⟩ := hcell i x j z hx e2
            rw [g1]; rfl)
          (fun i r j z e1 e2 => by
            rw [List.getElem?_map] at e1
            obtain ⟨x, hx, rfl⟩ := Option.map_eq_some_iff.1 e1
            obtain ⟨u, g1, g2⟩ := hcell i x j z hx e2
            rw [g1]; exact g2)
        rw [List.length_map, hll] at this
        exact this
    · exact .slice l _ _ (by rw [hll, List.length_map, hlen]) fun i x z e1 e2 => (hlx i x e1).1 z e2
theorem Dec.slc {α : Type} {e : α → List D} {sz : α → Nat} {t el k f : Nat} (d : Dec enc P W e sz el f) (ht : P.underlying t = some (.slice el)) (hc : P.cellsOf el = k) (hk : ∀ a, (e a).length = k) (hp : 0 < k) : Dec enc P W (fun l : List α => [.slc k (l.map e)]) (fun l => (l.map sz).sum + 1) t (f + 1) :=
  (DecR.slc d ht hc hk hp).mono fun l d h => by
    cases h with
    | nil d h => simp; exact bulk_pos _
    | slice l elems spare hl h =>
      have := sum_le l sz elems hl h
      show (l.map sz).sum + 1 ≤ _
      rw [Rows.uptoBulk]; omega
/-- fields of a struct, from a cell on -/
def FDecR (enc : TypeId × Value → H) (P : Program) (W : World) (o : Nat) (fs : List Field) {α : Type} (e : α → List D) (R : α → List (DataW H) → Prop) (f : Nat) : Prop :=
  ∀ (m : Nat), m ≤ f → ∀ (cs : List Value) (xs : List (DataW H × List MemPlace)), xs.length = fs.length → cs.length = o + (fs.map fun x => P.cellsOf x.type).sum →
    (∀ (i : Nat) (x : Field), fs[i]? = some x → DataW.trod enc P W 0 (fun _ => true) true m x.type ((cs.drop x.offset).take (P.cellsOf x.type)) = xs[i]?) →
    ∃ a : α, VDs (frzW W) (e a) (cs.drop o) ∧ R a (xs.map (·.1))
def RC {α β : Type} (R : α → DataW H → Prop) (Q : β → List (DataW H) → Prop) : α × β → List (DataW H) → Prop
  | p, d :: ds => R p.1 d ∧ Q p.2 ds
  | _, [] => False
theorem FDecR.nil {o f : Nat} : FDecR enc P W o [] (fun _ : Unit => []) (fun _ _ => True) f := fun m _ cs xs _ hc _ => ⟨(), ⟨by simp at hc ⊢; omega, by simp⟩, trivial⟩
theorem FDecR.cons {α β : Type} {e : α → List D} {e' : β → List D} {R : α → DataW H → Prop} {Q : β → List (DataW H) → Prop} {o k f : Nat} {x : Field} {fs : List Field} (d : DecR enc P W e R x.type f) (hk : P.cellsOf x.type = k) (ho : x.offset = o) (r : FDecR enc P W (o + k) fs e' Q f) :
    FDecR enc P W o (x :: fs) (fun p : α × β => e p.1 ++ e' p.2) (RC R Q) f := fun m hm cs xs hl hc hx => by
  subst ho hk
  match xs, hl with
  | y :: ys, hl =>
    simp only [List.map_cons, List.sum_cons] at hc
    obtain ⟨a, h1, h2⟩ := d m hm _ _ (hx 0 x rfl)
    obtain ⟨b, h3, h4⟩ := r m hm cs ys (by simpa using hl) (by omega) (fun i z hz => hx (i + 1) z hz)
    refine ⟨(a, b), ?_, h2, h4⟩
    have hea : (e a).length = P.cellsOf x.type := by
      have := h1.1
      rw [List.length_take, List.length_drop] at this
      omega
    refine VDs.append ?_ ?_
    · rw [hea]; exact h1
    · rw [hea, List.drop_drop]; exact h3
theorem DecR.struct {α : Type} {e : α → List D} {R : α → List (DataW H) → Prop} {t f : Nat} {fs : Array Field} (ht : P.underlying t = some (.struct fs)) (hc : P.cellsOf t = (fs.toList.map fun x => P.cellsOf x.type).sum) (r : FDecR enc P W 0 fs.toList e R f) : DecR enc P W e (fun a d => ∃ ds, d = .agg ds ∧ R a ds) t (f + 1) := fun m hm cs y h => by
  obtain ⟨xs, n, hn, hx, hl, hxl, hf⟩ := DataW.trod_struct ht h
  obtain ⟨a, h1, h2⟩ := r n (by omega) cs xs (by simpa using hxl) (by rw [hl, hc, Nat.zero_add]) (fun i z hz => hf i z (by rw [← Array.getElem?_toList]; exact hz))
  exact ⟨a, by simpa using h1, _, by rw [hx], h2⟩
def FDec (enc : TypeId × Value → H) (P : Program) (W : World) (o : Nat) (fs : List Field) {α : Type} (e : α → List D) (sz : α → Nat) (f : Nat) : Prop := FDecR enc P W o fs e (fun a ds => sz a ≤ Rows.uptoBulkAll ds) f
theorem FDec.nil {o f : Nat} : FDec enc P W o [] (fun _ : Unit => []) (fun _ => 0) f := fun m hm cs xs hl hc hx => by
  obtain ⟨a, h1, _⟩ := FDecR.nil (enc := enc) (P := P) (W := W) m hm cs xs hl hc hx
  exact ⟨a, h1, Nat.zero_le _⟩
theorem FDec.cons {α β : Type} {e : α → List D} {e' : β → List D} {sz : α → Nat} {sz' : β → Nat} {o k f : Nat} {x : Field} {fs : List Field} (d : Dec enc P W e sz x.type f) (hk : P.cellsOf x.type = k) (ho : x.offset = o) (r : FDec enc P W (o + k) fs e' sz' f) :
    FDec enc P W o (x :: fs) (fun p : α × β => e p.1 ++ e' p.2) (fun p => sz p.1 + sz' p.2) f := fun m hm cs xs hl hc hx => by
  obtain ⟨p, h1, h2⟩ := FDecR.cons d hk ho r m hm cs xs hl hc hx
  refine ⟨p, h1, ?_⟩
  generalize xs.map (·.1) = ds at h2
  cases ds with
  | nil => exact h2.elim
  | cons z zs => obtain ⟨h3, h4⟩ := h2; simp only [Rows.uptoBulkAll]; omega
theorem Dec.struct {α : Type} {e : α → List D} {sz : α → Nat} {t f : Nat} {fs : Array Field} (ht : P.underlying t = some (.struct fs)) (hc : P.cellsOf t = (fs.toList.map fun x => P.cellsOf x.type).sum) (r : FDec enc P W 0 fs.toList e sz f) : Dec enc P W e (fun a => sz a + 1) t (f + 1) :=
  (DecR.struct ht hc r).mono fun a d h => by
    obtain ⟨ds, rfl, h⟩ := h
    have h : sz a ≤ Rows.uptoBulkAll ds := h
    show sz a + 1 ≤ _
    rw [Rows.uptoBulk]; omega
theorem Dec.map {α β : Type} {e : α → List D} {e' : β → List D} {sz : α → Nat} {sz' : β → Nat} {t f : Nat} (g : α → β) (he : ∀ a, e' (g a) = e a) (hs : ∀ a, sz' (g a) ≤ sz a) (d : Dec enc P W e sz t f) : Dec enc P W e' sz' t f := fun m hm cs y h => by
  obtain ⟨a, h1, h2⟩ := d m hm cs y h
  exact ⟨g a, by rw [he]; exact h1, Nat.le_trans (hs a) h2⟩
theorem Dec.zero {α : Type} {e : α → List D} {sz : α → Nat} {t : Nat} : Dec enc P W e sz t 0 := fun m hm cs y h => by
  obtain rfl : m = 0 := by omega
  simp [DataW.trod] at h
/-- an argument -/
theorem Dec.open_ {α : Type} {e : α → List D} {sz : α → Nat} {t : Nat} {v : Value} {d : DataW H} {p : List MemPlace} (hd : ∀ f, Dec enc P W e sz t f) (h : DataW.Trod enc P W 0 (fun _ => true) true t v d p) (ht : Tiny d) : ∃ a : α, VDs (frzW W) (e a) v.cells.toList ∧ sz a ≤ 1048576 := by
  obtain ⟨fuel, h⟩ := h
  obtain ⟨a, h1, h2⟩ := hd fuel fuel (Nat.le_refl _) _ _ h
  exact ⟨a, h1, Nat.le_trans h2 ht.le⟩
theorem DecR.zero {α : Type} {e : α → List D} {R : α → DataW H → Prop} {t : Nat} : DecR enc P W e R t 0 := fun m hm cs y h => by
  obtain rfl : m = 0 := by omega
  simp [DataW.trod] at h
theorem DecR.map {α β : Type} {e : α → List D} {e' : β → List D} {R : α → DataW H → Prop} {R' : β → DataW H → Prop} {t f : Nat} (g : α → β) (he : ∀ a, e' (g a) = e a) (hs : ∀ a d, R a d → R' (g a) d) (d : DecR enc P W e R t f) : DecR enc P W e' R' t f := fun m hm cs y h => by
  obtain ⟨a, h1, h2⟩ := d m hm cs y h
  exact ⟨g a, by rw [he]; exact h1, hs _ _ h2⟩
theorem DecR.any {α : Type} {e : α → List D} {sz : α → Nat} {t f : Nat} (d : Dec enc P W e sz t f) : DecR enc P W e (fun _ _ => True) t f := d.mono fun _ _ _ => trivial
theorem DecR.open_ {α : Type} {e : α → List D} {R : α → DataW H → Prop} {t : Nat} {v : Value} {d : DataW H} {p : List MemPlace} (hd : ∀ f, DecR enc P W e R t f) (h : DataW.Trod enc P W 0 (fun _ => true) true t v d p) : ∃ a : α, VDs (frzW W) (e a) v.cells.toList ∧ R a d := by
  obtain ⟨fuel, h⟩ := h
  exact hd fuel fuel (Nat.le_refl _) _ _ h
/-- an argument of any size -/
theorem Dec.open0 {α : Type} {e : α → List D} {sz : α → Nat} {t : Nat} {v : Value} {d : DataW H} {p : List MemPlace} (hd : ∀ f, Dec enc P W e sz t f) (h : DataW.Trod enc P W 0 (fun _ => true) true t v d p) : ∃ a : α, VDs (frzW W) (e a) v.cells.toList := by
  obtain ⟨fuel, h⟩ := h
  obtain ⟨a, h1, _⟩ := hd fuel fuel (Nat.le_refl _) _ _ h
  exact ⟨a, h1⟩
end
theorem VDs.agg {G : Gh} {ds : List D} {vs : Array Value} (h : VDs G.frz ds vs.toList) : VR G (.agg (ds.map .d)) (.agg vs) := by
  have := VR.agg (G := G) (ds.map .d) vs.toList (by rw [List.length_map]; exact h.1) fun i a v h1 h2 => by
    rw [List.getElem?_map] at h1
    obtain ⟨d, hd, rfl⟩ := Option.map_eq_some_iff.1 h1
    obtain ⟨u, h3, h4⟩ := h.2 i d hd
    rw [h2] at h3
    injection h3 with h3
    rw [h3]; exact .d h4
  simpa using this
theorem VDs.str {F : Frz} {ds : List D} {cs : List Value} (h : VDs F ds cs) {j : Nat} {s : List UInt8} (hj : ds[j]? = some (.str s)) : s.length ≤ maxLen := by
  obtain ⟨v, _, hv⟩ := h.2 j _ hj
  exact hv.bnd.str_inv
/-- a law's walk, run in a world -/
theorem law_calls {P : Program} {T : Tbl} {W : World} {f : FuncId} {args : List AV} {vs : Array Value} (c : PC P T f args (.d (.bool true))) (hT : ∀ g j x, (T g)[j]? = some x → ∃ u, frzW W g j = some u ∧ VD (frzW W) x u) (ha : SlR (gh0 W (frzW W)) args vs) :
    Calls P f vs W fun e W' => e = .returned (.bool true) ∧ Below W.heap.size W W' :=
  (c.run (frzW W) W vs (fun _ _ _ h => h) hT ha).mono fun e W' ⟨v, F', he, hb, _, _, _, hv⟩ => ⟨by cases hv with | d hd => rw [he, hd.bool_inv], hb⟩
end Go.Proofs.YthhfbolhlbgbgaaDoor

namespace Go.Proofs.YthhfbolhlbgbgaaDoor
open Go.RowKit
set_option linter.unusedSimpArgs false
set_option linter.unusedVariables false
open Go.ChangeShapes Go.WideShapes Go.ChangeAt
open Go.ChangeMaps (open_string)
set_option maxRecDepth 20000
/-- the library's variable alone -/
def libT (m : Int) : Tbl := fun g => if g = 0 then [.int .i64 m] else []
theorem libT_lib (m : Int) : LibT (libT m) := ⟨m, by simp [libT]⟩
theorem libT_ok {W : World} {m : Int} (h : W.cell? ⟨0, 0, none⟩ = some (.int .i64 m)) : ∀ g j x, (libT m g)[j]? = some x → ∃ u, frzW W g j = some u ∧ VD (frzW W) x u := fun g j x hx => by
  unfold libT at hx
  split at hx
  · rename_i hg
    subst hg
    cases j with
    | zero => simp at hx; subst hx; exact ⟨_, h, .int _ _⟩
    | succ j => simp at hx
  · simp at hx
section
variable {H : Type} {enc : TypeId × Value → H} {W : World}
def entSz (x : Ent) : Nat := x.box.length + x.dest.length + x.text.length
theorem dec_ent (f : Nat) : Dec enc Tryd.prog W entD entSz 56 f := by
  cases f with
  | zero => exact .zero
  | succ f =>
    have hi : Dec enc Tryd.prog W (fun n : Int => [.int .i64 n]) (fun _ => 1) 3 f := Dec.int Tryd.underlying3
    have hs : Dec enc Tryd.prog W (fun s : List UInt8 => [.str s]) (fun s => s.length + 1) 9 f := Dec.str Tryd.underlying9
    exact (Dec.struct Tryd.underlying56 (by kernel_rfl) (.cons (k := 1) hi (by kernel_rfl) rfl (.cons (k := 1) hs (by kernel_rfl) rfl (.cons (k := 1) hi (by kernel_rfl) rfl (.cons (k := 1) hi (by kernel_rfl) rfl (.cons (k := 1) hs (by kernel_rfl) rfl (.cons (k := 1) hs (by kernel_rfl) rfl .nil))))))).map
        (fun (p : Int × (Tx × (Int × (Int × (Tx × (Tx × Unit)))))) => Ent.mk p.1 p.2.1 p.2.2.1 p.2.2.2.1 p.2.2.2.2.1 p.2.2.2.2.2.1) (fun p => rfl) (fun p => by simp only [entSz]; omega)
end
end Go.Proofs.YthhfbolhlbgbgaaDoor

namespace Go.Proofs.YthhfbolhlbgbgaaDoor
open Go.RowKit
set_option linter.unusedSimpArgs false
set_option linter.unusedVariables false
open Go.ChangeShapes Go.WideShapes Go.ChangeAt
set_option maxRecDepth 20000
section
variable {H : Type} {enc : TypeId × Value → H} {W : World}
theorem dec_ents (f : Nat) : DecR enc Tryd.prog W (fun l : List Ent => [.slc 6 (l.map entD)]) (RL fun _ _ => True) 23 f := by
  cases f with
  | zero => exact DecR.zero
  | succ f => exact DecR.slc (DecR.any (dec_ent f)) Tryd.underlying23 (by kernel_rfl) (fun _ => rfl) (by decide)
theorem dec_bat (f : Nat) : DecR enc Tryd.prog W (fun p : Int × List Ent => [.int .i64 p.1, .slc 6 (p.2.map entD)]) (fun p d => ∃ ds z, d = .agg ds ∧ ds[1]? = some z ∧ RL (fun _ _ => True) p.2 z) 37 f := by
  cases f with
  | zero => exact DecR.zero
  | succ f =>
    have hi : DecR enc Tryd.prog W (fun n : Int => [.int .i64 n]) (fun _ _ => True) 3 f := DecR.any (Dec.int Tryd.underlying3)
    exact (DecR.struct Tryd.underlying37 (by kernel_rfl) (.cons (k := 1) hi (by kernel_rfl) rfl (.cons (k := 1) (dec_ents f) (by kernel_rfl) rfl .nil))).map
        (fun (p : Int × (List Ent × Unit)) => (p.1, p.2.1)) (fun p => rfl) (fun p d h => by
          obtain ⟨ds, rfl, h⟩ := h
          match ds, h with
          | [], h => exact h.elim
          | [_], h => exact h.2.elim
          | x :: z :: ds, h => exact ⟨_, z, rfl, rfl, h.2.1⟩)
theorem ents_ok {F : Frz} {l : List Ent} {v : Value} (h : VD F (.slc 6 (entsD l)) v) : ∀ x ∈ l, EntOk x := fun x hx => by
  obtain ⟨_, _, h3⟩ := h.bnd.slc_inv
  have hm : entD x ∈ entsD l := List.mem_map.2 ⟨x, hx, rfl⟩
  have hb : maxLen ≤ 9223372036854775807 := by decide
  exact ⟨Nat.le_trans (h3 _ hm (.str x.box) (by simp [entD])).str_inv hb, Nat.le_trans (h3 _ hm (.str x.dest) (by simp [entD])).str_inv hb, Nat.le_trans (h3 _ hm (.str x.text) (by simp [entD])).str_inv hb⟩
theorem rl_len {α : Type} {R : α → DataW H → Prop} {l : List α} {z : DataW H} {t e n : Nat} (h : RL R l z) (hu : Tryd.prog.underlying t = some (.slice e)) (hs : Small Tryd.prog t z) (hn : Tryd.prog.bytesOf e = n) : l.length * n ≤ 140737488355328 := by
  cases h with
  | nil => simp
  | slice _ elems spare hl _ =>
    have := Small.row hu hs
    rw [hn, Nat.add_mul, ← hl] at this
    omega
end
end Go.Proofs.YthhfbolhlbgbgaaDoor

namespace Go.Proofs.YthhfbolhlbgbgaaDoor
set_option linter.unusedSimpArgs false
set_option linter.unusedVariables false
/-- a number's lowest byte -/
def ub (n : Int) : UInt8 := UInt8.ofNat (n % 256).toNat
theorem ub_nat (n : Int) : ((ub n).toNat : Int) = n % 256 := by
  unfold ub
  rw [UInt8.toNat_ofNat']
  have h1 := Int.emod_nonneg n (show (256 : Int) ≠ 0 by decide)
  have h2 := Int.emod_lt_of_pos n (show (0 : Int) < 256 by decide)
  omega
@[go_sem] theorem wrapU (n : Int) : IntKind.u8.wrap n = ((ub n).toNat : Int) := by
  rw [ub_nat]
  rfl
theorem byteRows_app (a c : Tx) : byteRows a ++ byteRows c = byteRows (a ++ c) := by simp [byteRows]
@[go_sem] theorem byteRows_len (a : Tx) : (byteRows a).length = a.length := by simp [byteRows]
theorem byteRows_one (c : UInt8) : [[D.int .u8 (c.toNat : Int)]] = byteRows [c] := rfl
theorem byteRows_getD (a : Tx) (i : Nat) (d : List D) (h : i < a.length) : (byteRows a).getD i d = [.int .u8 ((a.getD i 0).toNat : Int)] := by
  simp [byteRows, List.getD, h]
/-- a number as so many bytes, the highest one first -/
def wideR (n : Int) : Nat → Tx
  | 0 => []
  | k + 1 => ub (n.fdiv (2 ^ (min (8 * (k : Int)).toNat IntKind.i64.bits))) :: wideR n k
theorem wideR_len (n : Int) : ∀ k, (wideR n k).length = k
  | 0 => rfl
  | k + 1 => by simp [wideR, wideR_len n k]
theorem isub1 (j : Nat) : (((j + 1 : Nat) : Int)) - 1 = j := by omega
set_option maxRecDepth 4000 in
set_option maxHeartbeats 1000000 in
theorem wide_c (T : Tbl) (u : Nat) (Y : Tx) (c : Int) (m : Nat) (F : List (Nat × Ob)) (L : List Nat) (hm : m ≤ 8) (hu : freshT u L) (hY : Y.length + m ≤ 1000000) : AC Tryd.prog T 60 [.own u 1 (byteRows Y), .d (.int .i64 c), .d (.int .i64 m)] (⟨F, u :: L⟩) (fun x h => ∃ v, freshT v L ∧ x = .ret (.own v 1 (byteRows (Y ++ wideR c m))) ∧ h = ⟨F, v :: L⟩) := by
  refine ⟨Tryd.call60, ACalls.enterS Tryd.func60 rfl Tryd.ntmps60 rfl fun hb => ?_⟩
  simp only [go_sem, Tryd.results60]
  refine AWp.rs fun K1 hK1 => ?_
  try simp only [go_sem, icast]
  (repeat (with_reducible refine And.intro ?_ ?_; (first | omega | (intro _; omega) | decide | (exact nfB) | (intro _; exact nfB) | (intro hg; refine ⟨hg, ?_⟩; omega) | (simp; done) | (simp; omega) | (intro hg; simp at hg; done) | (intro hg; simp at hg ⊢; first | omega | exact hg | grind))))
  refine hK1 _ _ ?_
  try clear hK1 K1
  refine AWp.seq fun K2 hK2 => ?_
  refine AWp.rs fun K3 hK3 => ?_
  try simp only [go_sem, icast]
  (repeat (with_reducible refine And.intro ?_ ?_; (first | omega | (intro _; omega) | decide | (exact nfB) | (intro _; exact nfB) | (intro hg; refine ⟨hg, ?_⟩; omega) | (simp; done) | (simp; omega) | (intro hg; simp at hg; done) | (intro hg; simp at hg ⊢; first | omega | exact hg | grind))))
  refine hK3 _ _ ?_
  try clear hK3 K3
  refine AWp.mask [true, true, false, false, true] rfl ?_
  simp only [go_sem]
  refine AWp.block ?_
  refine AWp.loopS [false, true] [true, false, true] (fun n lc hc => ∃ (k v : Nat) (Z : Tx), n = 2 * k ∧ EqS lc [(0, .own v 1 (byteRows Z)), (7, .d (.int .i64 ((k : Int) - 1)))] ∧ EqS hc (⟨F, v :: L⟩) ∧ (k ≤ m) ∧ (Z ++ wideR c k = Y ++ wideR c m) ∧ (Z.length + k = Y.length + m) ∧ (freshT v L)) rfl ?_ ?_
  · refine ⟨_, m, u, Y, rfl, ?_, ?_, ?_, ?_, ?_, ?_⟩
    · (try simp only [go_sem, icast]) <;> first | exact ⟨rfl⟩ | (constructor; simp; done)
    · (try simp only [go_sem, icast]) <;> first | exact ⟨rfl⟩ | (constructor; simp; done)
    all_goals (first | omega | rfl | (simp only [go_sem]; done) | assumption)
  · rintro _ _ _ ⟨k, v, Z, rfl, ⟨rfl⟩, ⟨rfl⟩, h1, h2, h3, h4⟩
    simp only [go_sem]
    refine AWp.seq fun K4 hK4 => ?_
    refine AWp.rs fun K5 hK5 => ?_
    try simp only [go_sem, icast]
    (repeat (with_reducible refine And.intro ?_ ?_; (first | omega | (intro _; omega) | decide | (exact nfB) | (intro _; exact nfB) | (intro hg; refine ⟨hg, ?_⟩; omega) | (simp; done) | (simp; omega) | (intro hg; simp at hg; done) | (intro hg; simp at hg ⊢; first | omega | exact hg | grind))))
    refine hK5 _ _ ?_
    try clear hK5 K5
    refine AWp.cond _ rfl (fun hc0 => ?_) (fun hc0 => ?_)
    · skip
      try simp only [decide_eq_true_eq, decide_eq_false_iff_not, Bool.not_eq_true', Bool.not_eq_false', Bool.and_eq_true, Bool.or_eq_true, Bool.and_eq_false_iff, Bool.or_eq_false_iff, Int.not_lt, Int.not_le, beq_iff_eq, beq_eq_false_iff_ne, ne_eq, Bool.not_eq_true, Bool.not_eq_false] at hc0
      obtain ⟨j, rfl⟩ : ∃ j, k = j + 1 := ⟨k - 1, by omega⟩
      have hj : (j : Int) < 8 := by omega
      refine AWp.skip ?_
      refine thenQ_n ?_
      refine hK4 _ _ ?_
      try clear hK4 K4
      refine AWp.seq fun K6 hK6 => ?_
      refine AWp.block ?_
      refine AWp.rk fun K7 hK7 => ?_
      try simp only [go_sem, icast, isub1]
      (repeat (with_reducible refine And.intro ?_ ?_; (first | omega | (intro _; omega) | decide | (exact nfB) | (intro _; exact nfB) | (intro hg; refine ⟨hg, ?_⟩; omega) | (simp; done) | (simp; omega) | (intro hg; simp at hg; done) | (intro hg; simp at hg ⊢; first | omega | exact hg | grind))))
      refine DW.app rfl rfl rfl rfl (show slI Tryd.prog 33 = some (5, 1, 1) by simp only [go_sem]) rfl rfl (by simp only [go_sem, icast, isub1]) (by first | exact .inl rfl | exact .inr rfl) (by (try simp only [go_sem]); omega) (by (try simp only [go_sem]); omega) fun t1 ft1 => ?_
      try simp only [freshT] at ft1
      try simp only [go_sem, icast, isub1, ft1]
      (repeat (with_reducible refine And.intro ?_ ?_; (first | omega | (intro _; omega) | decide | (exact nfB) | (intro _; exact nfB) | (intro hg; refine ⟨hg, ?_⟩; omega) | (simp; done) | (simp; omega) | (intro hg; simp at hg; done) | (intro hg; simp at hg ⊢; first | omega | exact hg | grind))))
      refine hK7 _ _ ?_
      try clear hK7 K7
      refine blkQ_n (thenQ_n ?_)
      refine hK6 _ _ ?_
      try clear hK6 K6
      refine AWp.mask [true, true, true] rfl ?_
      simp only [go_sem]
      refine AWp.rk fun K8 hK8 => ?_
      try simp only [go_sem, icast, isub1, ft1]
      (repeat (with_reducible refine And.intro ?_ ?_; (first | omega | (intro _; omega) | decide | (exact nfB) | (intro _; exact nfB) | (intro hg; refine ⟨hg, ?_⟩; omega) | (simp; done) | (simp; omega) | (intro hg; simp at hg; done) | (intro hg; simp at hg ⊢; first | omega | exact hg | grind))))
      refine hK8 _ _ ?_
      try clear hK8 K8
      refine thenQ_n ?_
      refine EndS.mk [false, true] [true, false, true] [] [] [] [t1] rfl ?_ ?_
      · (try simp only [go_sem, icast, isub1, ft1]) <;> try rfl
      refine .e ⟨_, ?_, j, t1, (Z ++ [ub (c.fdiv (2 ^ (min (8 * (j : Int)).toNat IntKind.i64.bits)))]), rfl, ?_, ?_, ?_, ?_, ?_, ?_⟩
      · first | omega | (simp; omega) | (grind)
      · (try simp only [go_sem, icast, isub1, ft1]) <;> first | exact ⟨rfl⟩ | (constructor; simp only [← byteRows_app, byteRows_one]; done)
      · (try simp only [go_sem, icast, isub1, ft1]) <;> first | exact ⟨rfl⟩ | (constructor; simp; done)
      · omega
      · rw [← h2]; simp [wideR]
      · simp; omega
      · first | assumption | (simp only [go_sem, ft1] at *; done) | (simp only [go_sem, ft1] at *; assumption)
    · skip
      try simp only [decide_eq_true_eq, decide_eq_false_iff_not, Bool.not_eq_true', Bool.not_eq_false', Bool.and_eq_true, Bool.or_eq_true, Bool.and_eq_false_iff, Bool.or_eq_false_iff, Int.not_lt, Int.not_le, beq_iff_eq, beq_eq_false_iff_ne, ne_eq, Bool.not_eq_true, Bool.not_eq_false] at hc0
      refine AWp.exit ?_
      refine thenQ_e (thenQ_e (blkQ_e (thenQ_n ?_)))
      refine hK2 _ _ ?_
      try clear hK2 K2
      refine AWp.mask [true] rfl ?_
      simp only [go_sem]
      refine AWp.rs fun K9 hK9 => ?_
      try simp only [go_sem, icast]
      (repeat (with_reducible refine And.intro ?_ ?_; (first | omega | (intro _; omega) | decide | (exact nfB) | (intro _; exact nfB) | (intro hg; refine ⟨hg, ?_⟩; omega) | (simp; done) | (simp; omega) | (intro hg; simp at hg; done) | (intro hg; simp at hg ⊢; first | omega | exact hg | grind))))
      refine hK9 _ _ ?_
      try clear hK9 K9
      refine AWp.ret ?_
      try simp only [thenQ, blkQ]
      apply endW_r [] [] [] [] (by (try simp only [go_sem, icast]); rfl)
      · refine ⟨v, h4, rfl, rfl⟩
      · have h0 : k = 0 := by omega
        subst h0
        have h2 : Z = Y ++ wideR c m := by simpa [wideR] using h2
        simp [LeA, h2]
theorem take_get {a : Tx} {k : Nat} (h : k < a.length) : a.take (k + 1) = a.take k ++ [a.getD k 0] := by
  rw [List.take_add_one]; simp [List.getD, List.getElem?_eq_getElem h]
theorem fdiv_nat (n : Nat) (c : Nat) : (n : Int).fdiv (c : Int) = ((n / c : Nat) : Int) := by
  rw [Int.fdiv_eq_ediv_of_nonneg _ (by omega)]; exact (Int.natCast_ediv n c).symm
theorem ub_mod (n : Int) : ub (n % 256) = ub n := by
  apply UInt8.toNat_inj.1
  have h1 := ub_nat (n % 256)
  have h2 := ub_nat n
  rw [Int.emod_emod_of_dvd n (Int.dvd_refl 256)] at h1
  omega
theorem wide2 (n : Nat) : wideR n 2 = [ub ((n : Int).tdiv 256), ub ((n : Int).tmod 256)] := by
  have e1 : (n : Int).fdiv (2 ^ (min (8 * ((1 : Nat) : Int)).toNat IntKind.i64.bits)) = (n : Int).tdiv 256 := by
    rw [show (2 : Int) ^ (min (8 * ((1 : Nat) : Int)).toNat IntKind.i64.bits) = ((256 : Nat) : Int) from rfl, fdiv_nat, Int.tdiv_eq_ediv_of_nonneg (by omega)]; rfl
  have e2 : (n : Int).fdiv (2 ^ (min (8 * ((0 : Nat) : Int)).toNat IntKind.i64.bits)) = n := by
    rw [show (2 : Int) ^ (min (8 * ((0 : Nat) : Int)).toNat IntKind.i64.bits) = ((1 : Nat) : Int) from rfl, fdiv_nat]; simp
  have e3 : (n : Int).tmod 256 = (n : Int) % 256 := Int.tmod_eq_emod_of_nonneg (by omega)
  simp only [wideR, e1, e2, e3, ub_mod]
theorem wide3 (n : Int) (h : 0 ≤ n) : wideR n 3 = [ub (n.tdiv 65536), ub ((n.tdiv 256).tmod 256), ub (n.tmod 256)] := by
  obtain ⟨n, rfl⟩ := Int.eq_ofNat_of_zero_le h
  have e0 : (n : Int).fdiv (2 ^ (min (8 * ((2 : Nat) : Int)).toNat IntKind.i64.bits)) = (n : Int).tdiv 65536 := by
    rw [show (2 : Int) ^ (min (8 * ((2 : Nat) : Int)).toNat IntKind.i64.bits) = ((65536 : Nat) : Int) from rfl, fdiv_nat, Int.tdiv_eq_ediv_of_nonneg (by omega)]; rfl
  have e1 : (n : Int).fdiv (2 ^ (min (8 * ((1 : Nat) : Int)).toNat IntKind.i64.bits)) = (n : Int).tdiv 256 := by
    rw [show (2 : Int) ^ (min (8 * ((1 : Nat) : Int)).toNat IntKind.i64.bits) = ((256 : Nat) : Int) from rfl, fdiv_nat, Int.tdiv_eq_ediv_of_nonneg (by omega)]; rfl
  have e2 : (n : Int).fdiv (2 ^ (min (8 * ((0 : Nat) : Int)).toNat IntKind.i64.bits)) = n := by
    rw [show (2 : Int) ^ (min (8 * ((0 : Nat) : Int)).toNat IntKind.i64.bits) = ((1 : Nat) : Int) from rfl, fdiv_nat]; simp
  have e3 : (n : Int).tmod 256 = (n : Int) % 256 := Int.tmod_eq_emod_of_nonneg (by omega)
  have e4 : ((n : Int).tdiv 256).tmod 256 = (n : Int).tdiv 256 % 256 := Int.tmod_eq_emod_of_nonneg (by rw [Int.tdiv_eq_ediv_of_nonneg (by omega)]; omega)
  show wideR (n : Int) 3 = _
  simp only [wideR, e0, e1, e2]
  rw [e3, e4, ub_mod, ub_mod]
theorem tdiv256 (n : Nat) : (n : Int).tdiv 256 = ((n / 256 : Nat) : Int) := by rw [Int.tdiv_eq_ediv_of_nonneg (by omega)]; rfl
theorem tmod256 (n : Nat) : (n : Int).tmod 256 = ((n % 256 : Nat) : Int) := by rw [Int.tmod_eq_emod_of_nonneg (by omega)]; rfl
theorem wide2n (n : Nat) : wideR n 2 = [ub ((n / 256 : Nat) : Int), ub ((n % 256 : Nat) : Int)] := by rw [wide2, tdiv256, tmod256]
def txS (t : Tx) : Tx := wideR t.length 2 ++ t
theorem txS_len (t : Tx) : (txS t).length = t.length + 2 := by simp [txS, wideR_len]; omega
set_option maxRecDepth 4000 in
set_option maxHeartbeats 1000000 in
theorem joined_c (T : Tbl) (x y : Tx) (hl : x.length + y.length ≤ 1000000) : PC Tryd.prog T 63 [.d (.slc 1 (byteRows (x))), .d (.slc 1 (byteRows (y)))] (.d (.slc 1 (byteRows (x ++ y)))) := by
  refine ⟨Tryd.call63, PCall.enterS Tryd.func63 rfl Tryd.ntmps63 rfl fun hb => ?_⟩
  simp only [go_sem, Tryd.results63]
  refine AWp.rs fun K1 hK1 => ?_
  try simp only [go_sem, icast]
  (repeat (with_reducible refine And.intro ?_ ?_; (first | omega | (intro _; omega) | decide | (exact nfB) | (intro _; exact nfB) | (intro hg; refine ⟨hg, ?_⟩; omega) | (simp; done) | (simp; omega) | (intro hg; simp at hg; done) | (intro hg; simp at hg ⊢; first | omega | exact hg | grind))))
  refine hK1 _ _ ?_
  try clear hK1 K1
  refine AWp.rs fun K2 hK2 => ?_
  try simp only [go_sem, icast]
  (repeat (with_reducible refine And.intro ?_ ?_; (first | omega | (intro _; omega) | decide | (exact nfB) | (intro _; exact nfB) | (intro hg; refine ⟨hg, ?_⟩; omega) | (simp; done) | (simp; omega) | (intro hg; simp at hg; done) | (intro hg; simp at hg ⊢; first | omega | exact hg | grind))))
  refine hK2 _ _ ?_
  try clear hK2 K2
  refine AWp.ownNilS 5 1 rfl rfl (by decide) fun t0 ft0 => ?_
  try simp only [freshT] at ft0
  simp only [go_sem, icast, ft0]
  refine AWp.seq fun K3 hK3 => ?_
  refine AWp.rs fun K4 hK4 => ?_
  try simp only [go_sem, icast, ft0]
  (repeat (with_reducible refine And.intro ?_ ?_; (first | omega | (intro _; omega) | decide | (exact nfB) | (intro _; exact nfB) | (intro hg; refine ⟨hg, ?_⟩; omega) | (simp; done) | (simp; omega) | (intro hg; simp at hg; done) | (intro hg; simp at hg ⊢; first | omega | exact hg | grind))))
  refine hK4 _ _ ?_
  try clear hK4 K4
  refine AWp.block ?_
  refine AWp.mask [true, true, false, true, true] rfl ?_
  simp only [go_sem]
  refine AWp.loopS [true, true] [false, false, true, true] (fun n lc hc => ∃ (k v : Nat), n = x.length - k ∧ EqS lc [(5, .own v 1 (byteRows (x.take k))), (6, .d (.int .i64 k))] ∧ EqS hc (⟨[], [v]⟩) ∧ (k ≤ x.length)) rfl ?_ ?_
  · refine ⟨_, 0, t0, rfl, ?_, ?_, ?_⟩
    · (try simp only [go_sem, icast, ft0]) <;> first | exact ⟨rfl⟩ | (constructor; simp [byteRows]; done)
    · (try simp only [go_sem, icast, ft0]) <;> first | exact ⟨rfl⟩ | (constructor; simp; done)
    all_goals (first | omega | rfl | (simp; done) | (simp; omega) | assumption)
  · rintro _ _ _ ⟨k, v, rfl, ⟨rfl⟩, ⟨rfl⟩, h1⟩
    simp only [go_sem]
    refine AWp.seq fun K5 hK5 => ?_
    refine AWp.rs fun K6 hK6 => ?_
    try simp only [go_sem, icast, ft0]
    (repeat (with_reducible refine And.intro ?_ ?_; (first | omega | (intro _; omega) | decide | (exact nfB) | (intro _; exact nfB) | (intro hg; refine ⟨hg, ?_⟩; omega) | (simp; done) | (simp; omega) | (intro hg; simp at hg; done) | (intro hg; simp at hg ⊢; first | omega | exact hg | grind))))
    refine hK6 _ _ ?_
    try clear hK6 K6
    refine AWp.cond _ rfl (fun hc0 => ?_) (fun hc0 => ?_)
    · skip
      try simp only [decide_eq_true_eq, decide_eq_false_iff_not, Bool.not_eq_true', Bool.not_eq_false', Bool.and_eq_true, Bool.or_eq_true, Bool.and_eq_false_iff, Bool.or_eq_false_iff, Int.not_lt, Int.not_le, beq_iff_eq, beq_eq_false_iff_ne, ne_eq, Bool.not_eq_true, Bool.not_eq_false] at hc0
      have hlt : k < x.length := by omega
      have htk : (x.take k).length ≤ 1000000 := by simp; omega
      refine AWp.skip ?_
      refine thenQ_n ?_
      refine hK5 _ _ ?_
      try clear hK5 K5
      refine AWp.mask [true, true, true, true] rfl ?_
      simp only [go_sem]
      refine AWp.seq fun K7 hK7 => ?_
      refine AWp.block ?_
      refine AWp.rk fun K8 hK8 => ?_
      try simp only [go_sem, icast, ft0, byteRows_getD x k _ hlt]
      (repeat (with_reducible refine And.intro ?_ ?_; (first | omega | (intro _; omega) | decide | (exact nfB) | (intro _; exact nfB) | (intro hg; refine ⟨hg, ?_⟩; omega) | (simp; done) | (simp; omega) | (intro hg; simp at hg; done) | (intro hg; simp at hg ⊢; first | omega | exact hg | grind))))
      refine DW.app rfl rfl rfl rfl (show slI Tryd.prog 33 = some (5, 1, 1) by simp only [go_sem]) rfl rfl (by simp only [go_sem, icast, ft0, byteRows_getD x k _ hlt]) (by first | exact .inl rfl | exact .inr rfl) (by (try simp only [go_sem, List.length_append, List.length_cons, List.length_nil]); omega) (by (try simp only [go_sem, List.length_append, List.length_cons, List.length_nil]); omega) fun t1 ft1 => ?_
      try simp only [freshT] at ft1
      try simp only [go_sem, icast, ft0, byteRows_getD x k _ hlt, ft1]
      (repeat (with_reducible refine And.intro ?_ ?_; (first | omega | (intro _; omega) | decide | (exact nfB) | (intro _; exact nfB) | (intro hg; refine ⟨hg, ?_⟩; omega) | (simp; done) | (simp; omega) | (intro hg; simp at hg; done) | (intro hg; simp at hg ⊢; first | omega | exact hg | grind))))
      refine hK8 _ _ ?_
      try clear hK8 K8
      refine blkQ_n (thenQ_n ?_)
      refine hK7 _ _ ?_
      try clear hK7 K7
      refine AWp.mask [true, true, true, true] rfl ?_
      simp only [go_sem]
      refine AWp.rk fun K9 hK9 => ?_
      try simp only [go_sem, icast, ft0, byteRows_getD x k _ hlt, ft1]
      (repeat (with_reducible refine And.intro ?_ ?_; (first | omega | (intro _; omega) | decide | (exact nfB) | (intro _; exact nfB) | (intro hg; refine ⟨hg, ?_⟩; omega) | (simp; done) | (simp; omega) | (intro hg; simp at hg; done) | (intro hg; simp at hg ⊢; first | omega | exact hg | grind))))
      refine hK9 _ _ ?_
      try clear hK9 K9
      refine thenQ_n ?_
      refine EndS.mk [true, true] [false, false, true, true] [] [] [] [t1] rfl ?_ ?_
      · (try simp only [go_sem, icast, ft0, byteRows_getD x k _ hlt, ft1]) <;> try rfl
      refine .e ⟨_, ?_, k + 1, t1, rfl, ?_, ?_, ?_⟩
      · first | omega | (simp; omega) | (grind)
      · (try simp only [go_sem, icast, ft0, byteRows_getD x k _ hlt, ft1]) <;> first | exact ⟨rfl⟩ | (constructor; rw [take_get hlt, ← byteRows_app]; rfl)
      · (try simp only [go_sem, icast, ft0, byteRows_getD x k _ hlt, ft1]) <;> first | exact ⟨rfl⟩ | (constructor; simp; done)
      all_goals (first | omega | assumption | grind)
    · skip
      try simp only [decide_eq_true_eq, decide_eq_false_iff_not, Bool.not_eq_true', Bool.not_eq_false', Bool.and_eq_true, Bool.or_eq_true, Bool.and_eq_false_iff, Bool.or_eq_false_iff, Int.not_lt, Int.not_le, beq_iff_eq, beq_eq_false_iff_ne, ne_eq, Bool.not_eq_true, Bool.not_eq_false] at hc0
      have hk : k = x.length := by omega
      subst hk
      rw [List.take_length]
      refine AWp.exit ?_
      refine thenQ_e (thenQ_e (blkQ_e (thenQ_n ?_)))
      refine hK3 _ _ ?_
      try clear hK3 K3
      refine AWp.mask [false, true, true] rfl ?_
      simp only [go_sem]
      refine AWp.seq fun K10 hK10 => ?_
      refine AWp.rs fun K11 hK11 => ?_
      try simp only [go_sem, icast, ft0]
      (repeat (with_reducible refine And.intro ?_ ?_; (first | omega | (intro _; omega) | decide | (exact nfB) | (intro _; exact nfB) | (intro hg; refine ⟨hg, ?_⟩; omega) | (simp; done) | (simp; omega) | (intro hg; simp at hg; done) | (intro hg; simp at hg ⊢; first | omega | exact hg | grind))))
      refine hK11 _ _ ?_
      try clear hK11 K11
      refine AWp.block ?_
      refine AWp.loopS [true] [false, true, true] (fun n lc hc => ∃ (k v : Nat), n = y.length - k ∧ EqS lc [(5, .own v 1 (byteRows (x ++ y.take k))), (7, .d (.int .i64 k))] ∧ EqS hc (⟨[], [v]⟩) ∧ (k ≤ y.length)) rfl ?_ ?_
      · refine ⟨_, 0, v, rfl, ?_, ?_, ?_⟩
        · (try simp only [go_sem, icast, ft0]) <;> first | exact ⟨rfl⟩ | (constructor; simp; done)
        · (try simp only [go_sem, icast, ft0]) <;> first | exact ⟨rfl⟩ | (constructor; simp; done)
        all_goals (first | omega | rfl | (simp; done) | (simp; omega) | assumption)
      · rintro _ _ _ ⟨k, v, rfl, ⟨rfl⟩, ⟨rfl⟩, h1⟩
        simp only [go_sem]
        refine AWp.seq fun K12 hK12 => ?_
        refine AWp.rs fun K13 hK13 => ?_
        try simp only [go_sem, icast, ft0]
        (repeat (with_reducible refine And.intro ?_ ?_; (first | omega | (intro _; omega) | decide | (exact nfB) | (intro _; exact nfB) | (intro hg; refine ⟨hg, ?_⟩; omega) | (simp; done) | (simp; omega) | (intro hg; simp at hg; done) | (intro hg; simp at hg ⊢; first | omega | exact hg | grind))))
        refine hK13 _ _ ?_
        try clear hK13 K13
        refine AWp.cond _ rfl (fun hc1 => ?_) (fun hc1 => ?_)
        · skip
          try simp only [decide_eq_true_eq, decide_eq_false_iff_not, Bool.not_eq_true', Bool.not_eq_false', Bool.and_eq_true, Bool.or_eq_true, Bool.and_eq_false_iff, Bool.or_eq_false_iff, Int.not_lt, Int.not_le, beq_iff_eq, beq_eq_false_iff_ne, ne_eq, Bool.not_eq_true, Bool.not_eq_false] at hc1
          have hlt : k < y.length := by omega
          have htk : x.length + (y.take k).length ≤ 1000000 := by simp; omega
          refine AWp.skip ?_
          refine thenQ_n ?_
          refine hK12 _ _ ?_
          try clear hK12 K12
          refine AWp.mask [true, true, true] rfl ?_
          simp only [go_sem]
          refine AWp.seq fun K14 hK14 => ?_
          refine AWp.block ?_
          refine AWp.rk fun K15 hK15 => ?_
          try simp only [go_sem, icast, ft0, byteRows_getD y k _ hlt]
          (repeat (with_reducible refine And.intro ?_ ?_; (first | omega | (intro _; omega) | decide | (exact nfB) | (intro _; exact nfB) | (intro hg; refine ⟨hg, ?_⟩; omega) | (simp; done) | (simp; omega) | (intro hg; simp at hg; done) | (intro hg; simp at hg ⊢; first | omega | exact hg | grind))))
          refine DW.app rfl rfl rfl rfl (show slI Tryd.prog 33 = some (5, 1, 1) by simp only [go_sem]) rfl rfl (by simp only [go_sem, icast, ft0, byteRows_getD y k _ hlt]) (by first | exact .inl rfl | exact .inr rfl) (by (try simp only [go_sem, List.length_append, List.length_cons, List.length_nil]); omega) (by (try simp only [go_sem, List.length_append, List.length_cons, List.length_nil]); omega) fun t2 ft2 => ?_
          try simp only [freshT] at ft2
          try simp only [go_sem, icast, ft0, byteRows_getD y k _ hlt, ft2]
          (repeat (with_reducible refine And.intro ?_ ?_; (first | omega | (intro _; omega) | decide | (exact nfB) | (intro _; exact nfB) | (intro hg; refine ⟨hg, ?_⟩; omega) | (simp; done) | (simp; omega) | (intro hg; simp at hg; done) | (intro hg; simp at hg ⊢; first | omega | exact hg | grind))))
          refine hK15 _ _ ?_
          try clear hK15 K15
          refine blkQ_n (thenQ_n ?_)
          refine hK14 _ _ ?_
          try clear hK14 K14
          refine AWp.mask [true, true, true] rfl ?_
          simp only [go_sem]
          refine AWp.rk fun K16 hK16 => ?_
          try simp only [go_sem, icast, ft0, byteRows_getD y k _ hlt, ft2]
          (repeat (with_reducible refine And.intro ?_ ?_; (first | omega | (intro _; omega) | decide | (exact nfB) | (intro _; exact nfB) | (intro hg; refine ⟨hg, ?_⟩; omega) | (simp; done) | (simp; omega) | (intro hg; simp at hg; done) | (intro hg; simp at hg ⊢; first | omega | exact hg | grind))))
          refine hK16 _ _ ?_
          try clear hK16 K16
          refine thenQ_n ?_
          refine EndS.mk [true] [false, true, true] [] [] [] [t2] rfl ?_ ?_
          · (try simp only [go_sem, icast, ft0, byteRows_getD y k _ hlt, ft2]) <;> try rfl
          refine .e ⟨_, ?_, k + 1, t2, rfl, ?_, ?_, ?_⟩
          · first | omega | (simp; omega) | (grind)
          · (try simp only [go_sem, icast, ft0, byteRows_getD y k _ hlt, ft2]) <;> first | exact ⟨rfl⟩ | (constructor; rw [take_get hlt, ← List.append_assoc, ← byteRows_app (x ++ y.take k)]; rfl)
          · (try simp only [go_sem, icast, ft0, byteRows_getD y k _ hlt, ft2]) <;> first | exact ⟨rfl⟩ | (constructor; simp; done)
          all_goals (first | omega | assumption | grind)
        · skip
          try simp only [decide_eq_true_eq, decide_eq_false_iff_not, Bool.not_eq_true', Bool.not_eq_false', Bool.and_eq_true, Bool.or_eq_true, Bool.and_eq_false_iff, Bool.or_eq_false_iff, Int.not_lt, Int.not_le, beq_iff_eq, beq_eq_false_iff_ne, ne_eq, Bool.not_eq_true, Bool.not_eq_false] at hc1
          refine AWp.exit ?_
          refine thenQ_e (thenQ_e (blkQ_e (thenQ_n ?_)))
          refine hK10 _ _ ?_
          try clear hK10 K10
          refine AWp.mask [false, true] rfl ?_
          simp only [go_sem]
          refine AWp.rs fun K17 hK17 => ?_
          try simp only [go_sem, icast, ft0]
          (repeat (with_reducible refine And.intro ?_ ?_; (first | omega | (intro _; omega) | decide | (exact nfB) | (intro _; exact nfB) | (intro hg; refine ⟨hg, ?_⟩; omega) | (simp; done) | (simp; omega) | (intro hg; simp at hg; done) | (intro hg; simp at hg ⊢; first | omega | exact hg | grind))))
          refine hK17 _ _ ?_
          try clear hK17 K17
          refine AWp.ret ?_
          try simp only [go_sem, icast, ft0]
          rw [List.take_of_length_le (by omega)]; try simp [LeA, LeD]
theorem nsB : isStr Tryd.prog 33 = false := by kernel_rfl
set_option maxRecDepth 4000 in
set_option maxHeartbeats 1000000 in
theorem lengthAnd_c (T : Tbl) (s : Tx) (hs : s.length ≤ 4096) : PC Tryd.prog T 95 [.d (.str s)] (.d (.slc 1 (byteRows (txS s)))) := by
  refine ⟨Tryd.call95, PCall.enterS Tryd.func95 rfl Tryd.ntmps95 rfl fun hb => ?_⟩
  simp only [go_sem, Tryd.results95]
  refine AWp.rs fun K1 hK1 => ?_
  try simp only [go_sem, tdiv256, tmod256, nsB, Bool.false_eq_true, if_false]
  (repeat (with_reducible refine And.intro ?_ ?_; (first | omega | (intro _; omega) | decide | (exact nfB) | (intro _; exact nfB) | (intro hg; refine ⟨hg, ?_⟩; omega) | (simp; done) | (simp; omega) | (intro hg; simp at hg; done) | (intro hg; simp at hg ⊢; first | omega | exact hg | grind))))
  refine hK1 _ _ ?_
  try clear hK1 K1
  refine AWp.rs fun K2 hK2 => ?_
  try simp only [go_sem, tdiv256, tmod256, nsB, Bool.false_eq_true, if_false]
  (repeat (with_reducible refine And.intro ?_ ?_; (first | omega | (intro _; omega) | decide | (exact nfB) | (intro _; exact nfB) | (intro hg; refine ⟨hg, ?_⟩; omega) | (simp; done) | (simp; omega) | (intro hg; simp at hg; done) | (intro hg; simp at hg ⊢; first | omega | exact hg | grind))))
  refine DW.pcr rfl rfl rfl rfl (joined_c T [ub ((s.length / 256 : Nat) : Int), ub ((s.length % 256 : Nat) : Int)] s (by simp only [List.length_cons, List.length_nil]; omega)) rfl rfl ?_
  try simp only [go_sem, tdiv256, tmod256, nsB, Bool.false_eq_true, if_false]
  (repeat (with_reducible refine And.intro ?_ ?_; (first | omega | (intro _; omega) | decide | (exact nfB) | (intro _; exact nfB) | (intro hg; refine ⟨hg, ?_⟩; omega) | (simp; done) | (simp; omega) | (intro hg; simp at hg; done) | (intro hg; simp at hg ⊢; first | omega | exact hg | grind))))
  refine hK2 _ _ ?_
  try clear hK2 K2
  refine AWp.mask [false, true] rfl ?_
  simp only [go_sem]
  refine AWp.ret ?_
  try simp only [go_sem, tdiv256, tmod256, nsB, Bool.false_eq_true, if_false]
  rw [txS, wide2n]; try simp [LeA, LeD]
end Go.Proofs.YthhfbolhlbgbgaaDoor

namespace Go.Proofs.YthhfbolhlbgbgaaDoor
open Go.RowKit
set_option linter.unusedSimpArgs false
set_option linter.unusedVariables false
open Go.ChangeShapes Go.WideShapes Go.ChangeAt
set_option maxRecDepth 20000
section
variable {H : Type} {enc : TypeId × Value → H} {W : World}
theorem Dec.u8 {t : TypeId} {f : Nat} (ht : Tryd.prog.underlying t = some (.int .u8)) : Dec enc Tryd.prog W (fun c : UInt8 => [.int .u8 c.toNat]) (fun _ => 1) t f := fun m _ cs y h => by
  obtain ⟨n, e, hw⟩ := DataW.trod_int ht h
  have hn : ((ub n).toNat : Int) = n := by
    have h2 := hw.2
    simp only [Lit.wf, Bool.and_eq_true, decide_eq_true_eq] at h2
    have a1 : 0 ≤ n := h2.1
    have a2 : n ≤ 255 := h2.2
    rw [ub_nat]
    omega
  exact ⟨ub n, by rw [e]; show VDs (frzW W) [.int .u8 ((ub n).toNat : Int)] _; rw [hn]; exact .one (.int .u8 n), bulk_pos _⟩
theorem dec_bytes (f : Nat) : DecR enc Tryd.prog W (fun l : List UInt8 => [.slc 1 (byteRows l)]) (RL fun _ _ => True) 33 f := by
  cases f with
  | zero => exact DecR.zero
  | succ f => exact DecR.slc (e := fun c : UInt8 => [.int .u8 c.toNat]) (DecR.any (Dec.u8 Tryd.underlying5)) Tryd.underlying33 (by kernel_rfl) (fun _ => rfl) (by decide)
end

end Go.Proofs.YthhfbolhlbgbgaaDoor

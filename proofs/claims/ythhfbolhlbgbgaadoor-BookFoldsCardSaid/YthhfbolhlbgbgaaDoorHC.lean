/- Texts that the laws rest on, packed. -/
import Derived.Test.YthhfbolhlbgbgaaDoorHB
import Derived.Test.YthhfbolhlbgbgaaDoorGN
namespace Go.Proofs.YthhfbolhlbgbgaaDoor
set_option linter.unusedSimpArgs false
set_option linter.unusedVariables false
theorem all_S {s : St} {l : List Ent} (h : stE s = 0) (h1 : ¬ 10 < l.length) : allS s l = allF s l := by rw [allS, if_neg (by simp [h]), if_neg h1]
theorem all_S1 {s : St} {l : List Ent} (h : ¬ stE s = 0) : allS s l = (⟨[], []⟩, stE s) := if_pos h
theorem all_S2 {s : St} {l : List Ent} (h : stE s = 0) (h1 : 10 < l.length) : allS s l = (⟨[], []⟩, 1) := by rw [allS, if_neg (by simp [h]), if_pos h1]
set_option maxRecDepth 4000 in
set_option maxHeartbeats 1000000 in
theorem All_c (T : Tbl) (hL : LibT T) (s : St) (l : List Ent) (ok : StOk s) (okl : ∀ x ∈ l, EntOk x) (F : List (Nat × Ob)) (L : List Nat) : AC Tryd.prog T 28 [.agg (stateA s), .d (.slc 6 (entsD l))] (⟨F, L⟩) (fun r h => r = .ret (.tup [.agg (stateA (allS s l).1), .d (.int .i64 ((allS s l).2))]) ∧ h = ⟨F, L⟩) := by
  refine ⟨Tryd.call28, ACalls.enterS Tryd.func28 rfl Tryd.ntmps28 rfl fun hb => ?_⟩
  simp only [go_sem, Tryd.results28]
  refine AWp.rs fun K1 hK1 => ?_
  try simp only [go_sem]
  intro b2
  first | intro fb2 | have fb2 := True.intro
  try simp only [freshL] at fb2
  intro b4
  first | intro fb4 | have fb4 := True.intro
  try simp only [freshL] at fb4
  refine hK1 _ _ ?_
  try clear hK1 K1
  refine AWp.seq fun K2 hK2 => ?_
  refine AWp.rs fun K3 hK3 => ?_
  try simp only [go_sem, fb4]
  refine DW.pcr rfl rfl rfl rfl (StCheck_c T hL s ok) rfl rfl ?_
  try simp only [go_sem]
  refine hK3 _ _ ?_
  try clear hK3 K3
  refine AWp.mask [false, true, true, true, false, true] rfl ?_
  simp only [go_sem]
  refine AWp.rs fun K4 hK4 => ?_
  try simp only [go_sem]
  refine hK4 _ _ ?_
  try clear hK4 K4
  refine AWp.cond _ rfl (fun hc0 => ?_) (fun hc0 => ?_)
  · skip
    try simp only [decide_eq_false_iff_not, Bool.not_eq_true'] at hc0
    refine AWp.rs fun K5 hK5 => ?_
    try simp only [go_sem, fb4]
    refine hK5 _ _ ?_
    try clear hK5 K5
    refine AWp.mask [false, false, true, true] rfl ?_
    simp only [go_sem]
    refine AWp.ret ?_
    try simp only [thenQ]
    apply endW_r [b2, b4] [] [] [] (by (try simp only [go_sem, fb4]); rfl)
    · exact ⟨rfl, by simp [go_sem]⟩
    · rw [all_S1 hc0]; simp [LeA, LeL, LeD, boxesD, entsD]
  · skip
    try simp only [decide_eq_true_eq, Bool.not_eq_false'] at hc0
    have inv0 := stE_I (show stE s = 0 by omega)
    refine AWp.skip ?_
    refine thenQ_n ?_
    refine hK2 _ _ ?_
    try clear hK2 K2
    refine AWp.seq fun K6 hK6 => ?_
    refine AWp.rs fun K7 hK7 => ?_
    try simp only [go_sem]
    refine hK7 _ _ ?_
    try clear hK7 K7
    refine AWp.mask [true, true, true, false, false, false, false, false, true] rfl ?_
    simp only [go_sem]
    refine AWp.cond _ rfl (fun hc1 => ?_) (fun hc1 => ?_)
    · skip
      try simp only [decide_eq_true_eq] at hc1
      refine AWp.rs fun K8 hK8 => ?_
      try simp only [go_sem, fb4]
      refine hK8 _ _ ?_
      try clear hK8 K8
      refine AWp.mask [false, false, true, true] rfl ?_
      simp only [go_sem]
      refine AWp.ret ?_
      try simp only [thenQ]
      apply endW_r [b2, b4] [] [] [] (by (try simp only [go_sem, fb4]); rfl)
      · exact ⟨rfl, by simp [go_sem]⟩
      · rw [all_S2 (by omega) (by omega)]; simp [LeA, LeL, LeD, boxesD, entsD]
    · skip
      try simp only [decide_eq_false_iff_not, Int.not_lt] at hc1
      refine AWp.skip ?_
      refine thenQ_n ?_
      refine hK6 _ _ ?_
      try clear hK6 K6
      refine AWp.rs fun K9 hK9 => ?_
      try simp only [go_sem, fb4]
      refine DW.acp [] [] rfl rfl rfl rfl (by (try simp only [go_sem]); rfl) rfl (own_cr T s (Nat.le_trans inv0.bx (by decide)) (fun y hy => Nat.le_trans (inv0.al y hy).1 (by decide)) (Nat.le_trans inv0.sp (by decide)) [_, _] _ _) ?_
      rintro _ _ ⟨l0, bb0, cb0, u0, hl0, hcb0, hu0, rfl, rfl⟩
      simp only [List.cons_append, List.nil_append]
      have e1 := plain_mA
      simp only [AV.plain, AV.one] at e1
      have e2 := cells_mA
      unfold AV.cells at e2
      try simp only [freshT, freshL] at e1
      try simp only [freshT, freshL] at e2
      try simp only [go_sem]
      intro b7
      first | intro fb7 | have fb7 := True.intro
      try simp only [freshL] at fb7
      refine hK9 _ _ ?_
      try clear hK9 K9
      refine AWp.mask [true, false, true, true] rfl ?_
      simp only [go_sem]
      refine AWp.seq fun K10 hK10 => ?_
      refine AWp.rs fun K11 hK11 => ?_
      try simp only [go_sem]
      refine hK11 _ _ ?_
      try clear hK11 K11
      refine AWp.block ?_
      refine AWp.mask [false, true, true, true, true, true] rfl ?_
      simp only [go_sem]
      refine AWp.loopS [true, true, true, true] [false, false, false, false, true] (fun n lc hc => ∃ (k : Nat) (lb : List BM) (sp : List Ent) (bb cb u : Nat), n = l.length - k ∧ EqS lc [(26, .d (.int .i64 k))] ∧ EqS hc (⟨(b7, ⟨2, 1, [[mA bb 3 cb lb.length, .own u 6 (entsD sp)]]⟩) :: (b4, ⟨2, 1, [[.nils, .nils]]⟩) :: (b2, ⟨2, 1, [stateA s]⟩) :: mO bb 3 cb (bmRows lb) (mObjs lb F), u :: L⟩) ∧ (k ≤ l.length) ∧ (InvS ⟨bmB lb, sp⟩) ∧ (cb = 0 → lb = []) ∧ (freshT u L) ∧ (allF s l = allF ⟨bmB lb, sp⟩ (l.drop k))) rfl ?_ ?_
      · refine ⟨_, 0, l0, s.spool, bb0, cb0, u0, rfl, ?_, ?_, ?_, ?_, ?_, ?_, ?_⟩
        · (try simp only [go_sem]) <;> first | exact ⟨rfl⟩ | (constructor; simp; done)
        · (try simp only [go_sem]) <;> first | exact ⟨rfl⟩ | (constructor; simp; done)
        all_goals (first | omega | assumption | (rw [hl0]; exact inv0) | (rw [hl0]; rfl))
      · rintro _ _ _ ⟨k, lb, sp, bb, cb, u, rfl, ⟨rfl⟩, ⟨rfl⟩, h1, h2, h3, h4, h5⟩
        simp only [go_sem]
        refine AWp.rs fun K12 hK12 => ?_
        try simp only [go_sem]
        refine hK12 _ _ ?_
        try clear hK12 K12
        refine AWp.seq fun K13 hK13 => ?_
        refine AWp.cond _ rfl (fun hc2 => ?_) (fun hc2 => ?_)
        · skip
          try simp only [decide_eq_true_eq] at hc2
          have hlt : k < l.length := by omega
          refine AWp.skip ?_
          refine thenQ_n ?_
          refine hK13 _ _ ?_
          try clear hK13 K13
          refine AWp.seq fun K14 hK14 => ?_
          refine AWp.block ?_
          refine AWp.rs fun K15 hK15 => ?_
          try simp only [go_sem, entsD_get l k _ hlt, entD]
          (repeat (with_reducible refine And.intro ?_ ?_; omega))
          intro b9
          first | intro fb9 | have fb9 := True.intro
          try simp only [freshL] at fb9
          refine hK15 _ _ ?_
          try clear hK15 K15
          refine AWp.seq fun K16 hK16 => ?_
          refine AWp.rs fun K17 hK17 => ?_
          try simp only [go_sem, fb9]
          refine DW.pcr rfl rfl rfl rfl (Form_e T hL (okl _ (List.getElem_mem hlt))) rfl rfl ?_
          try simp only [go_sem]
          refine hK17 _ _ ?_
          try clear hK17 K17
          refine AWp.mask [true, true, true, true, true, true, true] rfl ?_
          simp only [go_sem]
          refine AWp.rs fun K18 hK18 => ?_
          try simp only [go_sem]
          refine hK18 _ _ ?_
          try clear hK18 K18
          refine AWp.cond _ rfl (fun hc3 => ?_) (fun hc3 => ?_)
          · skip
            try simp only [decide_eq_false_iff_not, Bool.not_eq_true'] at hc3
            refine AWp.leH (LeH.ord [] [] [b7] [] _) ?_
            try simp only [go_sem, fb7, fb9]
            refine AWp.iceB (b7 := b7) (l := lb) (F := F) [_, _, _] h3 ?_
            simp only [List.cons_append, List.nil_append]
            · skip
              refine AWp.rs fun K19 hK19 => ?_
              try simp only [go_sem, fb4, fb7, fb9]
              refine hK19 _ _ ?_
              try clear hK19 K19
              refine AWp.mask [true, true] rfl ?_
              simp only [go_sem]
              refine AWp.ret ?_
              try simp only [thenQ, blkQ]
              apply endW_r [b2, b4, b7, b9] [u] [] [] (by (try simp only [go_sem, fb4, fb7, fb9]); rfl)
              · exact ⟨rfl, by simp [go_sem, fb9]⟩
              · rw [all_S (by omega) (by omega), h5, all_e hlt hc3]; simp [LeA, LeL, LeD, boxesD, entsD]
          · skip
            try simp only [decide_eq_true_eq, Bool.not_eq_false'] at hc3
            refine AWp.skip ?_
            refine thenQ_n ?_
            refine hK16 _ _ ?_
            try clear hK16 K16
            refine AWp.rs fun K20 hK20 => ?_
            try simp only [go_sem, fb9]
            refine DW.acp [b7] [] rfl rfl rfl rfl (by (try simp only [go_sem, fb7, fb9]); rfl) rfl (apply_c T b7 bb cb u sp lb (l[k]'hlt) [_, _, _] _ _ h3 h4 h2 (by omega)) ?_
            rintro _ _ ⟨l2, sp2, e, bb2, cb2, u2, hcb2, hu2, hap, rfl, rfl⟩
            simp only [List.cons_append, List.nil_append]
            try simp only [go_sem]
            refine hK20 _ _ ?_
            try clear hK20 K20
            refine AWp.mask [true, true, false, false, true, true, true, true] rfl ?_
            simp only [go_sem]
            refine AWp.rs fun K21 hK21 => ?_
            try simp only [go_sem]
            refine hK21 _ _ ?_
            try clear hK21 K21
            refine AWp.cond _ rfl (fun hc4 => ?_) (fun hc4 => ?_)
            · skip
              try simp only [decide_eq_false_iff_not, Bool.not_eq_true'] at hc4
              refine AWp.iceB (b7 := b7) (l := l2) (F := F) [_, _, _] hcb2 ?_
              simp only [List.cons_append, List.nil_append]
              · skip
                refine AWp.rs fun K22 hK22 => ?_
                try simp only [go_sem, fb4, fb7, fb9]
                refine hK22 _ _ ?_
                try clear hK22 K22
                refine AWp.mask [true, true] rfl ?_
                simp only [go_sem]
                refine AWp.ret ?_
                try simp only [thenQ, blkQ]
                apply endW_r [b2, b4, b7, b9] [u2] [] [] (by (try simp only [go_sem, fb4, fb7, fb9]); rfl)
                · exact ⟨rfl, by simp [go_sem, fb9]⟩
                · rw [all_S (by omega) (by omega), h5, all_a hlt (by omega) (by rw [hap]; exact hc4), hap]; simp [LeA, LeL, LeD, boxesD, entsD]
            · skip
              try simp only [decide_eq_true_eq, Bool.not_eq_false'] at hc4
              refine AWp.skip ?_
              refine blkQ_n (thenQ_n ?_)
              refine hK14 _ _ ?_
              try clear hK14 K14
              refine AWp.rk fun K23 hK23 => ?_
              try simp only [go_sem, icast]
              (repeat (with_reducible refine And.intro ?_ ?_; omega))
              refine hK23 _ _ ?_
              try clear hK23 K23
              refine thenQ_n ?_
              refine EndS.mk [true, true, false, true, true] [false, false, false, false, false, true] [b9] [] [b7, b4, b2] [] rfl ?_ ?_
              · (try simp only [go_sem]) <;> try rfl
              refine .e ⟨_, ?_, k + 1, l2, sp2, bb2, cb2, u2, rfl, ?_, ?_, ?_, ?_, ?_, ?_, ?_⟩
              · first | omega | (simp; omega) | (grind)
              · (try simp only [go_sem]) <;> first | exact ⟨rfl⟩ | (constructor; simp; done)
              · (try simp only [go_sem, fb4, fb7, fb9]) <;> first | exact ⟨rfl⟩ | (constructor; simp; done)
              · omega
              · have := apS_I h2 (by omega : entE (l[k]'hlt) = 0); rw [hap] at this; exact this
              · exact hcb2
              · exact hu2
              · rw [h5, all_t hlt (by omega) (by rw [hap]; exact hc4), hap]
        · skip
          try simp only [decide_eq_false_iff_not, Int.not_lt] at hc2
          refine AWp.exit ?_
          refine thenQ_e (thenQ_e (blkQ_e (thenQ_n ?_)))
          refine hK10 _ _ ?_
          try clear hK10 K10
          refine AWp.mask [true, true] rfl ?_
          simp only [go_sem]
          refine AWp.iceB (b7 := b7) (l := lb) (F := F) [_, _] h3 ?_
          simp only [List.cons_append, List.nil_append]
          · skip
            refine AWp.rs fun K24 hK24 => ?_
            try simp only [go_sem, fb7]
            refine DW.acp [] [] rfl rfl rfl rfl (by (try simp only [go_sem]); rfl) rfl (AC.le (args := [.agg [.d (.slc 3 (boxesD (bmB lb))), .own u 6 (entsD sp)]]) (ownD_c T ⟨bmB lb, sp⟩ (Nat.le_trans h2.bx (by decide)) (fun y hy => Nat.le_trans (h2.al y hy).1 (by decide)) (Nat.le_trans h2.sp (by decide)) _ _) (by simp [LeL, LeA, LeD, stateA])) ?_
            rintro _ _ ⟨rfl, rfl⟩
            try simp only [go_sem, fb4, fb7]
            refine hK24 _ _ ?_
            try clear hK24 K24
            refine AWp.ret ?_
            apply endW_r [b2, b4, b7] [u] [] [] (by (try simp only [go_sem, fb4, fb7]); rfl)
            · exact ⟨rfl, by simp [go_sem]⟩
            · rw [all_S (by omega) (by omega), h5, all_end (by omega)]; simp [LeA, LeL, LeD, boxesD, entsD, bmB]
end Go.Proofs.YthhfbolhlbgbgaaDoor

namespace Go.Proofs.YthhfbolhlbgbgaaDoor
set_option linter.unusedSimpArgs false
set_option linter.unusedVariables false
set_option maxRecDepth 4000 in
set_option maxHeartbeats 1000000 in
theorem Apply_c (T : Tbl) (hL : LibT T) (s : St) (x : Ent) (ok : StOk s) (okx : EntOk x) (F : List (Nat × Ob)) (L : List Nat) : AC Tryd.prog T 32 [.agg (stateA s), .agg (entA x)] (⟨F, L⟩) (fun r h => r = .ret (.tup [.agg (stateA (allS s [x]).1), .d (.int .i64 ((allS s [x]).2))]) ∧ h = ⟨F, L⟩) := by
  refine ⟨Tryd.call32, ACalls.enterS Tryd.func32 rfl Tryd.ntmps32 rfl fun hb => ?_⟩
  simp only [go_sem, Tryd.results32]
  refine AWp.rs fun K1 hK1 => ?_
  try simp only [go_sem]
  intro b2
  first | intro fb2 | have fb2 := True.intro
  try simp only [freshL] at fb2
  intro b3
  first | intro fb3 | have fb3 := True.intro
  try simp only [freshL] at fb3
  intro b4
  first | intro fb4 | have fb4 := True.intro
  try simp only [freshL] at fb4
  refine hK1 _ _ ?_
  try clear hK1 K1
  refine AWp.rs fun K2 hK2 => ?_
  try simp only [go_sem, fb3, fb4]
  refine DW.acp [] [] rfl rfl rfl rfl (by (try simp only [go_sem]); rfl) rfl (All_c T hL s [x] ok (fun y hy => by rw [List.mem_singleton.1 hy]; exact okx) _ _) ?_
  rintro _ _ ⟨rfl, rfl⟩
  try simp only [go_sem, fb4]
  refine hK2 _ _ ?_
  try clear hK2 K2
  refine AWp.mask [false, false, false, false, true, true] rfl ?_
  simp only [go_sem]
  refine AWp.ret ?_
  apply endW_r [b2, b3, b4] [] [] [] (by (try simp only [go_sem, fb4]); rfl)
  · exact ⟨rfl, by simp [go_sem]⟩
  · simp [LeA, LeL, LeD]
end Go.Proofs.YthhfbolhlbgbgaaDoor

namespace Go.Proofs.YthhfbolhlbgbgaaDoor
set_option linter.unusedSimpArgs false
set_option linter.unusedVariables false
set_option maxRecDepth 4000 in
set_option maxHeartbeats 1000000 in
theorem copy_c (T : Tbl) (s : St) (hb : s.boxes.length ≤ 1000) (hm : ∀ y ∈ s.boxes, y.mails.length ≤ 1000) (hs : s.spool.length ≤ 1000) (F : List (Nat × Ob)) (L : List Nat) : AC Tryd.prog T 69 [.agg (stateA s)] (⟨F, L⟩) (fun r h => ∃ (l : List BM) (bb cb u : Nat), bmB l = s.boxes ∧ (cb = 0 → l = []) ∧ freshT u L ∧ r = .ret (.agg [mA bb 3 cb l.length, .own u 6 (entsD s.spool)]) ∧ h = ⟨mO bb 3 cb (bmRows l) (mObjs l F), u :: L⟩) := by
  refine ⟨Tryd.call69, ACalls.enterS Tryd.func69 rfl Tryd.ntmps69 rfl fun hb => ?_⟩
  simp only [go_sem, Tryd.results69]
  refine AWp.rs fun K1 hK1 => ?_
  try simp only [go_sem]
  intro b1
  first | intro fb1 | have fb1 := True.intro
  try simp only [freshL] at fb1
  intro b2
  first | intro fb2 | have fb2 := True.intro
  try simp only [freshL] at fb2
  refine hK1 _ _ ?_
  try clear hK1 K1
  refine AWp.rs fun K2 hK2 => ?_
  try simp only [go_sem]
  intro b3
  first | intro fb3 | have fb3 := True.intro
  try simp only [freshL] at fb3
  refine hK2 _ _ ?_
  try clear hK2 K2
  refine AWp.seq fun K3 hK3 => ?_
  refine AWp.rs fun K4 hK4 => ?_
  try simp only [go_sem]
  refine hK4 _ _ ?_
  try clear hK4 K4
  refine AWp.block ?_
  refine AWp.mask [false, true, true, true, true] rfl ?_
  simp only [go_sem]
  refine AWp.leH (LeH.ord [] [] [b1] [] _) ?_
  try simp only [go_sem, fb2, fb3]
  refine AWp.iceP 1 [[.slc 3 (boxesD s.boxes), .slc 6 (entsD s.spool)]] rfl rfl (Nat.zero_lt_succ _) (by decide) (by simp) ?_
  simp only [go_sem]
  refine AWp.nilCell (b := b3) (i := 0) (j := 0) (k := 3) (ob := ⟨2, 1, [[.nils, .nils]]⟩) (r := [.nils, .nils]) (by simp [getO]) rfl rfl ?_
  refine AWp.loopS [true, true, true] [false, false, false, true] (fun n lc hc => ∃ (k : Nat) (l : List BM) (bb cb : Nat), n = s.boxes.length - k ∧ EqS lc [(4, .d (.int .i64 k))] ∧ EqS hc (⟨(b3, ⟨2, 1, [[mA bb 3 cb l.length, .nils]]⟩) :: (b2, ⟨2, 1, [[.nils, .nils]]⟩) :: mO bb 3 cb (bmRows l) (mObjs l F), L⟩) ∧ (k ≤ s.boxes.length) ∧ (bmB l = s.boxes.take k) ∧ (cb = 0 → l = [])) rfl ?_ ?_
  · refine ⟨_, 0, [], 0, 0, rfl, ?_, ?_, ?_, ?_, ?_⟩
    · (try simp only [go_sem]) <;> first | exact ⟨rfl⟩ | (constructor; simp; done)
    · (try simp only [go_sem, fb3]) <;> first | exact ⟨rfl⟩ | (constructor; simp; done)
    all_goals (first | omega | rfl | (simp; done) | (simp; omega) | assumption)
  · rintro _ _ _ ⟨k, l, bb, cb, rfl, ⟨rfl⟩, ⟨rfl⟩, h1, h2, h3⟩
    have hlk : l.length = k := by have := congrArg List.length h2; simpa [bmB, Nat.min_eq_left h1] using this
    simp only [go_sem]
    refine AWp.seq fun K5 hK5 => ?_
    refine AWp.rs fun K6 hK6 => ?_
    try simp only [go_sem]
    refine hK6 _ _ ?_
    try clear hK6 K6
    refine AWp.mask [true, true, true, true, false, false, false, false, true] rfl ?_
    simp only [go_sem]
    refine AWp.cond _ rfl (fun hc0 => ?_) (fun hc0 => ?_)
    · skip
      try simp only [decide_eq_true_eq] at hc0
      have hlt : k < s.boxes.length := by omega
      have hki : (k : Int) < (s.boxes.length : Int) := by omega
      have hmk := hm _ (List.getElem_mem hlt)
      have e1 := plain_mA
      simp only [AV.plain, AV.one] at e1
      have e2 := cells_mA
      unfold AV.cells at e2
      refine AWp.skip ?_
      refine thenQ_n ?_
      refine hK5 _ _ ?_
      try clear hK5 K5
      refine AWp.seq fun K7 hK7 => ?_
      refine AWp.block ?_
      refine AWp.dsF true [] [0, 1, 2, 3, 4, 5, 6, 7, 8, 9, 10, 11] [12, 13, 14] rfl (by kernel_rfl) fun K8 hK8 => ?_
      try simp only [go_sem, hki]
      try with_reducible refine Exists.intro _ (And.intro (fun _ => (by first | rfl | (simp only [go_sem, icast, fb1, fb2, fb3, hki, boxesD_get _ _ _ hlt, boxD, mailsD_len, e1, e2]; first | done | rfl | exact ⟨by omega, rfl⟩))) ?_)
      try simp only [go_sem]
      try with_reducible refine Exists.intro _ (And.intro (fun _ => (by first | rfl | (simp only [go_sem, icast, fb1, fb2, fb3, hki, boxesD_get _ _ _ hlt, boxD, mailsD_len, e1, e2]; first | done | rfl | exact ⟨by omega, rfl⟩))) ?_)
      try with_reducible refine Exists.intro _ (And.intro (fun _ => (by first | rfl | (simp only [go_sem, icast, fb1, fb2, fb3, hki, boxesD_get _ _ _ hlt, boxD, mailsD_len, e1, e2]; first | done | rfl | exact ⟨by omega, rfl⟩))) ?_)
      try simp only [go_sem, hki]
      try with_reducible refine Exists.intro _ (And.intro (fun _ => (by first | rfl | (simp only [go_sem, icast, fb1, fb2, fb3, hki, boxesD_get _ _ _ hlt, boxD, mailsD_len, e1, e2]; first | done | rfl | exact ⟨by omega, rfl⟩))) ?_)
      try simp only [go_sem]
      try with_reducible refine Exists.intro _ (And.intro (fun _ => (by first | rfl | (simp only [go_sem, icast, fb1, fb2, fb3, hki, boxesD_get _ _ _ hlt, boxD, mailsD_len, e1, e2]; first | done | rfl | exact ⟨by omega, rfl⟩))) ?_)
      try simp only [go_sem, boxesD_get _ _ _ hlt, boxD]
      try with_reducible refine Exists.intro _ (And.intro (fun _ => (by first | rfl | (simp only [go_sem, icast, fb1, fb2, fb3, hki, boxesD_get _ _ _ hlt, boxD, mailsD_len, e1, e2]; first | done | rfl | exact ⟨by omega, rfl⟩))) ?_)
      try simp only [go_sem]
      try with_reducible refine Exists.intro _ (And.intro (fun _ => (by first | rfl | (simp only [go_sem, icast, fb1, fb2, fb3, hki, boxesD_get _ _ _ hlt, boxD, mailsD_len, e1, e2]; first | done | rfl | exact ⟨by omega, rfl⟩))) ?_)
      try simp only [go_sem]
      try with_reducible refine Exists.intro _ (And.intro (fun _ => (by first | rfl | (simp only [go_sem, icast, fb1, fb2, fb3, hki, boxesD_get _ _ _ hlt, boxD, mailsD_len, e1, e2]; first | done | rfl | exact ⟨by omega, rfl⟩))) ?_)
      try with_reducible refine Exists.intro _ (And.intro (fun _ => (by first | rfl | (simp only [go_sem, icast, fb1, fb2, fb3, hki, boxesD_get _ _ _ hlt, boxD, mailsD_len, e1, e2]; first | done | rfl | exact ⟨by omega, rfl⟩))) ?_)
      try simp only [go_sem, hki]
      try with_reducible refine Exists.intro _ (And.intro (fun _ => (by first | rfl | (simp only [go_sem, icast, fb1, fb2, fb3, hki, boxesD_get _ _ _ hlt, boxD, mailsD_len, e1, e2]; first | done | rfl | exact ⟨by omega, rfl⟩))) ?_)
      try simp only [go_sem]
      try with_reducible refine Exists.intro _ (And.intro (fun _ => (by first | rfl | (simp only [go_sem, icast, fb1, fb2, fb3, hki, boxesD_get _ _ _ hlt, boxD, mailsD_len, e1, e2]; first | done | rfl | exact ⟨by omega, rfl⟩))) ?_)
      try simp only [go_sem, boxesD_get _ _ _ hlt, boxD]
      try with_reducible refine Exists.intro _ (And.intro (fun _ => (by first | rfl | (simp only [go_sem, icast, fb1, fb2, fb3, hki, boxesD_get _ _ _ hlt, boxD, mailsD_len, e1, e2]; first | done | rfl | exact ⟨by omega, rfl⟩))) ?_)
      try simp only [go_sem]
      intro b5
      first | intro fb5 | have fb5 := True.intro
      try simp only [freshL] at fb5
      refine hK8 _ _ ?_
      try clear hK8 K8
      refine AWp.mask [true, true, true, true, true] rfl ?_
      simp only [go_sem]
      refine AWp.seq fun K9 hK9 => ?_
      refine AWp.rs fun K10 hK10 => ?_
      try simp only [go_sem]
      refine hK10 _ _ ?_
      try clear hK10 K10
      refine AWp.block ?_
      refine AWp.nilCell (b := b5) (i := 0) (j := 2) (k := 3) (ob := ⟨3, 1, [[.d (.str (s.boxes[k]'hlt).name), .d (.int .i64 (s.boxes[k]'hlt).next), .nils]]⟩) (r := [.d (.str (s.boxes[k]'hlt).name), .d (.int .i64 (s.boxes[k]'hlt).next), .nils]) (by simp [getO]) rfl rfl ?_
      refine AWp.loopS [true, true, true, true, true] [false, false, false, false, false, true] (fun n lc hc => ∃ (j : Nat) (m c : Nat), n = (s.boxes[k]'hlt).mails.length - j ∧ EqS lc [(6, .d (.int .i64 j))] ∧ EqS hc (⟨(b5, ⟨3, 1, [[.d (.str (s.boxes[k]'hlt).name), .d (.int .i64 (s.boxes[k]'hlt).next), mA m 3 c j]]⟩) :: (b3, ⟨2, 1, [[mA bb 3 cb l.length, .nils]]⟩) :: (b2, ⟨2, 1, [[.nils, .nils]]⟩) :: mO m 3 c (dRows (mailsD ((s.boxes[k]'hlt).mails.take j))) (mO bb 3 cb (bmRows l) (mObjs l F)), L⟩) ∧ (j ≤ (s.boxes[k]'hlt).mails.length) ∧ (c = 0 → j = 0)) rfl ?_ ?_
      · refine ⟨_, 0, 0, 0, rfl, ?_, ?_, ?_, ?_⟩
        · (try simp only [go_sem]) <;> first | exact ⟨rfl⟩ | (constructor; simp; done)
        · (try simp only [go_sem, fb5]) <;> first | exact ⟨rfl⟩ | (constructor; simp; done)
        all_goals (first | omega | rfl | (simp; done) | (simp; omega) | assumption)
      · rintro _ _ _ ⟨j, m, c, rfl, ⟨rfl⟩, ⟨rfl⟩, g1, hmc⟩
        simp only [go_sem]
        refine AWp.seq fun K11 hK11 => ?_
        refine AWp.rs fun K12 hK12 => ?_
        try simp only [go_sem, hki, boxesD_get _ _ _ hlt, boxD, mailsD_len]
        refine hK12 _ _ ?_
        try clear hK12 K12
        refine AWp.mask [true, true, true, true, true, true, false, false, false, false, false, false, false, false, true] rfl ?_
        simp only [go_sem]
        refine AWp.cond _ rfl (fun hc1 => ?_) (fun hc1 => ?_)
        · skip
          try simp only [decide_eq_true_eq] at hc1
          have hjt : j < (s.boxes[k]'hlt).mails.length := by omega
          refine AWp.skip ?_
          refine thenQ_n ?_
          refine hK11 _ _ ?_
          try clear hK11 K11
          refine AWp.seq fun K13 hK13 => ?_
          refine AWp.block ?_
          refine AWp.dk true [0, 1, 2, 3, 4, 5, 6, 7, 8, 9, 10, 11, 12, 13, 14] rfl (by kernel_rfl) fun K14 hK14 => ?_
          try simp only [go_sem, hki, boxesD_get _ _ _ hlt, boxD, mailsD_len, fb5, mailsD_get _ _ _ hjt, mailD]
          (repeat (with_reducible refine And.intro ?_ ?_; omega))
          refine DW.leHe rfl (LeH.pm (mO_back [_, _, _] ..).symm) ?_
          refine DW.appM (b0 := m) (c0 := c) (rows := dRows (mailsD ((s.boxes[k]'hlt).mails.take j))) rfl rfl (by rw [dRows_len, mailsD_len, List.length_take, Nat.min_eq_left g1]; rfl) rfl (fun h => by rw [hmc h]; rfl) rfl (show slI Tryd.prog 90 = some (97, 3, 32) by simp only [go_sem]) rfl rfl (mails_full _) rfl (by simp) (by simp only [dRows_len, mailsD_len, List.length_take, List.length_cons, List.length_nil]; omega) (by simp only [dRows_len, mailsD_len, List.length_take, List.length_cons, List.length_nil]; omega) fun bm cm hcm fbm => ?_
          simp only [dRows_len, mailsD_len, List.length_take, Nat.min_eq_left g1, List.length_cons, List.length_nil, List.cons_append, List.nil_append, freshL] at fbm ⊢
          try simp only [go_sem, fb5, fbm]
          refine hK14 _ _ ?_
          try clear hK14 K14
          refine blkQ_n (thenQ_n ?_)
          refine hK13 _ _ ?_
          try clear hK13 K13
          refine AWp.mask [true, true, true, true, true, true] rfl ?_
          simp only [go_sem]
          refine AWp.leH (LeH.ord [] [] [b5, b3, b2, bm] [] _) ?_
          try simp only [go_sem, fb3, fb5, fbm]
          · skip
            refine AWp.rk fun K15 hK15 => ?_
            try simp only [go_sem, icast]
            (repeat (with_reducible refine And.intro ?_ ?_; omega))
            refine hK15 _ _ ?_
            try clear hK15 K15
            refine thenQ_n ?_
            refine EndS.mk [true, true, true, true, true] [false, false, false, false, false, true] [] [] [b5, b3, b2] [] rfl ?_ ?_
            · (try simp only [go_sem]) <;> try rfl
            refine .e ⟨_, ?_, j + 1, bm, cm, rfl, ?_, ?_, ?_, ?_⟩
            · first | omega | (simp; omega) | (grind)
            · (try simp only [go_sem]) <;> first | exact ⟨rfl⟩ | (constructor; simp; done)
            · (try simp only [go_sem, fb3, fb5, fbm]) <;> first | exact ⟨rfl⟩ | (constructor; rw [mO_pos hcm, mA_pos hcm, take_succ' hjt]; simp only [dRows, mailsD, List.map_append, List.map_cons, List.map_nil, mailD])
            · omega
            · exact fun h => absurd h (by omega)
        · skip
          try simp only [decide_eq_false_iff_not, Int.not_lt] at hc1
          have hj : j = (s.boxes[k]'hlt).mails.length := by omega
          subst hj
          simp only [List.take_length]
          refine AWp.exit ?_
          refine thenQ_e (thenQ_e (blkQ_e (thenQ_n ?_)))
          refine hK9 _ _ ?_
          try clear hK9 K9
          refine AWp.rkG 3 fun K16 hK16 => ?_
          simp only [List.take_succ_cons, List.take_zero, List.drop_succ_cons, List.drop_zero]
          try simp only [go_sem, fb3, fb5]
          refine DW.listB (cp := false) [_, _, _] [_] _ _ ?_
          refine DW.bsM (he := by first | rfl | kernel_rfl) (rows := [[.d (.str (s.boxes[k]'hlt).name), .d (.int .i64 (s.boxes[k]'hlt).next), mA m 3 c (s.boxes[k]'hlt).mails.length]]) rfl rfl (show slI Tryd.prog 22 = some (92, 3, 48) by simp only [go_sem]) (rowsM_1 rfl) rfl (by decide) (Nat.zero_lt_succ _) fun bn fbn => ?_
          try simp only [freshL] at fbn
          refine LV.lvc ?_
          try simp only [go_sem]
          refine DW.leHe rfl (LeH.pm (permO [_, _, _, _] ..)) ?_
          refine DW.appMM (b0 := bb) (c0 := cb) (rows := bmRows l) (b1 := bn) (ob1 := ⟨3, 1, [[.d (.str (s.boxes[k]'hlt).name), .d (.int .i64 (s.boxes[k]'hlt).next), mA m 3 c (s.boxes[k]'hlt).mails.length]]⟩) rfl rfl (by rw [bmRows_len]; rfl) rfl (fun h => by rw [h3 h]; rfl) rfl (by simp [getO]) rfl rfl (by simp) (show slI Tryd.prog 22 = some (92, 3, 48) by simp only [go_sem]) (by first | (simp only [go_sem]; done) | rfl) rfl (bmRows_full l) rfl (Nat.zero_lt_succ _) (by simp only [bmRows_len, List.length_cons, List.length_nil]; omega) (by simp only [bmRows_len, List.length_cons, List.length_nil]; omega) fun bm cm hcm fbm => ?_
          simp only [List.cons_append, List.nil_append, freshL] at fbm ⊢
          try simp only [go_sem, fb3, fb5, fbn, fbm]
          refine hK16 _ _ ?_
          try clear hK16 K16
          refine blkQ_n (thenQ_n ?_)
          refine hK7 _ _ ?_
          try clear hK7 K7
          refine AWp.mask [true, true, true, true] rfl ?_
          simp only [go_sem]
          refine AWp.leH (LeH.ord [bn] [] [b5, b3, b2, bm] [] _) ?_
          try simp only [go_sem, fb3, fb5, fbn, fbm]
          refine AWp.leH (LeH.pm (ownP [_, _, _] (bm := bm) (cm := cm) l (⟨(s.boxes[k]'hlt), m, c, fun h => List.eq_nil_of_length_eq_zero (hmc h)⟩ : BM) F hcm)) ?_
          simp only [List.cons_append, List.nil_append]
          · skip
            refine AWp.rk fun K17 hK17 => ?_
            try simp only [go_sem, icast]
            (repeat (with_reducible refine And.intro ?_ ?_; omega))
            refine hK17 _ _ ?_
            try clear hK17 K17
            refine thenQ_n ?_
            refine EndS.mk [true, true, true] [false, false, false, true] [b5] [] [b3, b2] [] rfl ?_ ?_
            · (try simp only [go_sem]) <;> try rfl
            refine .e ⟨_, ?_, k + 1, l ++ [(⟨(s.boxes[k]'hlt), m, c, fun h => List.eq_nil_of_length_eq_zero (hmc h)⟩ : BM)], bm, cm, rfl, ?_, ?_, ?_, ?_, ?_⟩
            · first | omega | (simp; omega) | (grind)
            · (try simp only [go_sem]) <;> first | exact ⟨rfl⟩ | (constructor; simp; done)
            · (try simp only [go_sem, fb3, fb5]) <;> first | exact ⟨rfl⟩ | (constructor; rw [mA_pos hcm]; simp)
            · omega
            · rw [bmB_snoc, h2, take_succ' hlt]
            · exact fun h => absurd h (by omega)
    · skip
      try simp only [decide_eq_false_iff_not, Int.not_lt] at hc0
      refine AWp.exit ?_
      refine thenQ_e (thenQ_e (blkQ_e (thenQ_n ?_)))
      refine hK3 _ _ ?_
      try clear hK3 K3
      refine AWp.seq fun K18 hK18 => ?_
      refine AWp.rs fun K19 hK19 => ?_
      try simp only [go_sem]
      refine hK19 _ _ ?_
      try clear hK19 K19
      refine AWp.ownNilH b3 0 1 6 (by (try simp only [go_sem, fb3]); rfl) rfl rfl (by decide) fun t0 ft0 => ?_
      try simp only [freshT] at ft0
      simp only [go_sem, fb3]
      refine AWp.block ?_
      refine AWp.mask [true, true, true, false, true] rfl ?_
      simp only [go_sem]
      refine AWp.loopS [true, true, true] [false, false, false, true] (fun n lc hc => ∃ (q u : Nat), n = s.spool.length - q ∧ EqS lc [(7, .d (.int .i64 q))] ∧ EqS hc (⟨(b3, ⟨2, 1, [[mA bb 3 cb l.length, .own u 6 (entsD (s.spool.take q))]]⟩) :: (b2, ⟨2, 1, [[.nils, .nils]]⟩) :: mO bb 3 cb (bmRows l) (mObjs l F), u :: L⟩) ∧ (q ≤ s.spool.length) ∧ (freshT u L)) rfl ?_ ?_
      · refine ⟨_, 0, t0, rfl, ?_, ?_, ?_, ?_⟩
        · (try simp only [go_sem]) <;> first | exact ⟨rfl⟩ | (constructor; simp; done)
        · (try simp only [go_sem]) <;> first | exact ⟨rfl⟩ | (constructor; simp; done)
        all_goals (first | omega | assumption)
      · rintro _ _ _ ⟨q, u, rfl, ⟨rfl⟩, ⟨rfl⟩, q1, hu⟩
        simp only [go_sem]
        refine AWp.seq fun K20 hK20 => ?_
        refine AWp.rs fun K21 hK21 => ?_
        try simp only [go_sem]
        refine hK21 _ _ ?_
        try clear hK21 K21
        refine AWp.mask [true, true, true, true, false, false, false, false, true] rfl ?_
        simp only [go_sem]
        refine AWp.cond _ rfl (fun hc2 => ?_) (fun hc2 => ?_)
        · skip
          try simp only [decide_eq_true_eq] at hc2
          have hqt : q < s.spool.length := by omega
          refine AWp.skip ?_
          refine thenQ_n ?_
          refine hK20 _ _ ?_
          try clear hK20 K20
          refine AWp.seq fun K22 hK22 => ?_
          refine AWp.block ?_
          refine AWp.dk true [0, 1, 2, 3, 4, 5, 6, 7, 8, 9, 10] rfl (by kernel_rfl) fun K23 hK23 => ?_
          try simp only [go_sem, fb3, entsD_get s.spool q _ hqt, entD]
          (repeat (with_reducible refine And.intro ?_ ?_; omega))
          refine DW.app rfl rfl rfl rfl (show slI Tryd.prog 23 = some (56, 6, 72) by simp only [go_sem]) rfl rfl (by simp only [go_sem]) (by first | exact .inl rfl | exact .inr rfl) (by (try simp only [go_sem, entsD_len, List.length_take, List.length_cons, List.length_nil]); omega) (by (try simp only [go_sem, entsD_len, List.length_take, List.length_cons, List.length_nil]); omega) fun t1 ft1 => ?_
          try simp only [freshT] at ft1
          try simp only [go_sem, fb3]
          refine hK23 _ _ ?_
          try clear hK23 K23
          refine blkQ_n (thenQ_n ?_)
          refine hK22 _ _ ?_
          try clear hK22 K22
          refine AWp.mask [true, true, true, true] rfl ?_
          simp only [go_sem]
          refine AWp.rk fun K24 hK24 => ?_
          try simp only [go_sem, icast]
          (repeat (with_reducible refine And.intro ?_ ?_; omega))
          refine hK24 _ _ ?_
          try clear hK24 K24
          refine thenQ_n ?_
          refine EndS.mk [true, true, true] [false, false, false, true] [] [] [b3, b2] [t1] rfl ?_ ?_
          · (try simp only [go_sem]) <;> try rfl
          refine .e ⟨_, ?_, q + 1, t1, rfl, ?_, ?_, ?_, ?_⟩
          · first | omega | (simp; omega) | (grind)
          · (try simp only [go_sem]) <;> first | exact ⟨rfl⟩ | (constructor; simp; done)
          · (try simp only [go_sem, fb3]) <;> first | exact ⟨rfl⟩ | (constructor; rw [take_succ' hqt]; simp only [entsD, List.map_append, List.map_cons, List.map_nil, entD]; done)
          all_goals first | omega | exact ft1 | exact ft1.2
        · skip
          try simp only [decide_eq_false_iff_not, Int.not_lt] at hc2
          have hq : s.spool.take q = s.spool := List.take_of_length_le (by omega)
          refine AWp.exit ?_
          refine thenQ_e (thenQ_e (blkQ_e (thenQ_n ?_)))
          refine hK18 _ _ ?_
          try clear hK18 K18
          refine AWp.rs fun K25 hK25 => ?_
          try simp only [go_sem, fb3, hq]
          refine hK25 _ _ ?_
          try clear hK25 K25
          refine AWp.mask [false, true] rfl ?_
          simp only [go_sem]
          refine AWp.ret ?_
          apply endW_r [b2, b3] [] [] [] (by (try simp only [go_sem, fb3]); rfl)
          · exact ⟨l, bb, cb, u, by rw [h2, List.take_of_length_le (by omega)], h3, hu, rfl, by simp [go_sem]⟩
          · simp [LeA, LeL, mA_le]
end Go.Proofs.YthhfbolhlbgbgaaDoor

namespace Go.Proofs.YthhfbolhlbgbgaaDoor
set_option linter.unusedSimpArgs false
set_option linter.unusedVariables false
set_option maxRecDepth 4000 in
set_option maxHeartbeats 1000000 in
theorem sameState_c (T : Tbl) (s : St) (hb : s.boxes.length ≤ 10000000000000) (hm : ∀ y ∈ s.boxes, y.mails.length ≤ 10000000000000) (hs : s.spool.length ≤ 10000000000000) : PC Tryd.prog T 30 [.agg (stateA s), .agg (stateA s)] (.d (.bool true)) := by
  refine ⟨Tryd.call30, PCall.enterS Tryd.func30 rfl Tryd.ntmps30 rfl fun hb => ?_⟩
  simp only [go_sem, Tryd.results30]
  refine AWp.rs fun K1 hK1 => ?_
  try simp only [go_sem]
  intro b2
  first | intro fb2 | have fb2 := True.intro
  try simp only [freshL] at fb2
  intro b3
  first | intro fb3 | have fb3 := True.intro
  try simp only [freshL] at fb3
  refine hK1 _ _ ?_
  try clear hK1 K1
  refine AWp.seq fun K2 hK2 => ?_
  refine AWp.rs fun K3 hK3 => ?_
  try simp only [go_sem, decide_true, Bool.not_true, fb3]
  refine DW.pcgr rfl rfl rfl rfl rfl (fun hg => sameEntries_c T s.spool (by omega)) (fun hg => by (try simp only [go_sem]) <;> first | exact hg | (exfalso; simp at hg; done) | (simpa using hg) | grind) rfl rfl ?_
  try simp only [go_sem, Bool.not_true]
  refine hK3 _ _ ?_
  try clear hK3 K3
  refine AWp.mask [false, false, true, true, false, false, false, false, false, false, false, false, false, false, false, false, false, false, false, true] rfl ?_
  simp only [go_sem]
  refine AWp.cond _ rfl (fun hc0 => ?_) (fun hc0 => ?_)
  · skip
    exact absurd hc0 (by simp)
  · skip
    try simp only [] at hc0
    refine AWp.skip ?_
    refine thenQ_n ?_
    refine hK2 _ _ ?_
    try clear hK2 K2
    refine AWp.seq fun K4 hK4 => ?_
    refine AWp.rs fun K5 hK5 => ?_
    try simp only [go_sem]
    refine hK5 _ _ ?_
    try clear hK5 K5
    refine AWp.block ?_
    refine AWp.mask [true, true, true] rfl ?_
    simp only [go_sem]
    refine AWp.loopS [true, true] [false, false, true] (fun n lc hc => ∃ (k : Nat), n = s.boxes.length - k ∧ EqS lc [(5, .d (.int .i64 k))] ∧ EqS hc (⟨(b3, ⟨2, 1, [stateA s]⟩) :: (b2, ⟨2, 1, [stateA s]⟩) :: [], []⟩) ∧ (k ≤ s.boxes.length)) rfl ?_ ?_
    · refine ⟨_, 0, rfl, ?_, ?_, ?_⟩
      · (try simp only [go_sem]) <;> first | exact ⟨rfl⟩ | (constructor; simp; done)
      · (try simp only [go_sem]) <;> first | exact ⟨rfl⟩ | (constructor; simp; done)
      all_goals (first | omega | rfl | (simp; done) | (simp; omega) | assumption)
    · rintro _ _ _ ⟨k, rfl, ⟨rfl⟩, ⟨rfl⟩, h1⟩
      simp only [go_sem]
      refine AWp.seq fun K6 hK6 => ?_
      refine AWp.rs fun K7 hK7 => ?_
      try simp only [go_sem, fb3]
      refine hK7 _ _ ?_
      try clear hK7 K7
      refine AWp.mask [true, true, true, false, false, false, false, true] rfl ?_
      simp only [go_sem]
      refine AWp.cond _ rfl (fun hc1 => ?_) (fun hc1 => ?_)
      · skip
        try simp only [decide_eq_true_eq] at hc1
        have hlt : k < s.boxes.length := by omega
        have hmk := hm _ (List.getElem_mem hlt)
        refine AWp.skip ?_
        refine thenQ_n ?_
        refine hK6 _ _ ?_
        try clear hK6 K6
        refine AWp.seq fun K8 hK8 => ?_
        refine AWp.block ?_
        refine AWp.rs fun K9 hK9 => ?_
        try simp only [go_sem, fb3, boxesD_get s.boxes k _ hlt, boxD]
        (repeat (with_reducible refine And.intro ?_ ?_; omega))
        intro b6
        first | intro fb6 | have fb6 := True.intro
        try simp only [freshL] at fb6
        refine hK9 _ _ ?_
        try clear hK9 K9
        refine AWp.mask [true, true, true, true] rfl ?_
        simp only [go_sem]
        refine AWp.rs fun K10 hK10 => ?_
        try simp only [go_sem, fb3, boxesD_get s.boxes k _ hlt, boxD, fb6]
        (repeat (with_reducible refine And.intro ?_ ?_; omega))
        intro b7
        first | intro fb7 | have fb7 := True.intro
        try simp only [freshL] at fb7
        refine hK10 _ _ ?_
        try clear hK10 K10
        refine AWp.mask [true, true, true, true, true] rfl ?_
        simp only [go_sem]
        refine AWp.seq fun K11 hK11 => ?_
        refine AWp.rs fun K12 hK12 => ?_
        try simp only [go_sem, decide_true, Bool.not_true, mailsD_len, fb6, fb7]
        refine hK12 _ _ ?_
        try clear hK12 K12
        refine AWp.mask [true, true, true, true, true, false, false, false, false, false, false, false, false, false, false, false, false, false, false, false, false, false, false, false, false, true] rfl ?_
        simp only [go_sem]
        refine AWp.cond _ rfl (fun hc2 => ?_) (fun hc2 => ?_)
        · skip
          exact absurd hc2 (by simp)
        · skip
          try simp only [] at hc2
          refine AWp.skip ?_
          refine thenQ_n ?_
          refine hK11 _ _ ?_
          try clear hK11 K11
          refine AWp.rs fun K13 hK13 => ?_
          try simp only [go_sem]
          refine hK13 _ _ ?_
          try clear hK13 K13
          refine AWp.block ?_
          refine AWp.mask [true, true, true, true, true, true] rfl ?_
          simp only [go_sem]
          refine AWp.loopS [true, true, true, true, true] [false, false, false, false, false, true] (fun n lc hc => ∃ (j : Nat), n = (s.boxes[k]'hlt).mails.length - j ∧ EqS lc [(8, .d (.int .i64 j))] ∧ EqS hc (⟨(b7, ⟨3, 1, [boxA s.boxes[k]]⟩) :: (b6, ⟨3, 1, [boxA s.boxes[k]]⟩) :: (b3, ⟨2, 1, [stateA s]⟩) :: (b2, ⟨2, 1, [stateA s]⟩) :: [], []⟩) ∧ (j ≤ (s.boxes[k]'hlt).mails.length)) rfl ?_ ?_
          · refine ⟨_, 0, rfl, ?_, ?_, ?_⟩
            · (try simp only [go_sem]) <;> first | exact ⟨rfl⟩ | (constructor; simp; done)
            · (try simp only [go_sem]) <;> first | exact ⟨rfl⟩ | (constructor; simp; done)
            all_goals (first | omega | rfl | (simp; done) | (simp; omega) | assumption)
          · rintro _ _ _ ⟨j, rfl, ⟨rfl⟩, ⟨rfl⟩, g1⟩
            simp only [go_sem]
            refine AWp.seq fun K14 hK14 => ?_
            refine AWp.rs fun K15 hK15 => ?_
            try simp only [go_sem, mailsD_len, fb6, fb7]
            refine hK15 _ _ ?_
            try clear hK15 K15
            refine AWp.mask [true, true, true, true, true, true, false, false, false, false, true] rfl ?_
            simp only [go_sem]
            refine AWp.cond _ rfl (fun hc3 => ?_) (fun hc3 => ?_)
            · skip
              try simp only [decide_eq_true_eq] at hc3
              have hjt : j < (s.boxes[k]'hlt).mails.length := by omega
              refine AWp.skip ?_
              refine thenQ_n ?_
              refine hK14 _ _ ?_
              try clear hK14 K14
              refine AWp.seq fun K16 hK16 => ?_
              refine AWp.block ?_
              refine AWp.ds true [0, 1, 2, 3, 4, 5, 6, 7, 8, 9, 10] rfl (by kernel_rfl) fun K17 hK17 => ?_
              try simp only [go_sem, decide_true, Bool.not_true, mailsD_len, fb6, fb7, mailsD_get _ _ _ hjt, mailD]
              (repeat (with_reducible refine And.intro ?_ ?_; omega))
              refine hK17 _ _ ?_
              try clear hK17 K17
              refine AWp.mask [true, true, true, true, true, true, false, false, false, false, false, false, false, false, false, false, false, true] rfl ?_
              simp only [go_sem]
              refine AWp.cond _ rfl (fun hc4 => ?_) (fun hc4 => ?_)
              · skip
                exact absurd hc4 (by simp)
              · skip
                try simp only [] at hc4
                refine AWp.skip ?_
                refine blkQ_n (thenQ_n ?_)
                refine hK16 _ _ ?_
                try clear hK16 K16
                refine AWp.rk fun K18 hK18 => ?_
                try simp only [go_sem, icast]
                (repeat (with_reducible refine And.intro ?_ ?_; omega))
                refine hK18 _ _ ?_
                try clear hK18 K18
                refine thenQ_n ?_
                refine EndS.mk [true, true, true, true, true] [false, false, false, false, false, true] [] [] [b7, b6, b3, b2] [] rfl ?_ ?_
                · (try simp only [go_sem]) <;> try rfl
                refine .e ⟨_, ?_, j + 1, rfl, ?_, ?_, ?_⟩
                · first | omega | (simp; omega) | (grind)
                · (try simp only [go_sem]) <;> first | exact ⟨rfl⟩ | (constructor; simp; done)
                · (try simp only [go_sem, fb3, fb6, fb7]) <;> first | exact ⟨rfl⟩ | (constructor; simp; done)
                all_goals (first | omega | assumption | grind)
            · skip
              try simp only [decide_eq_false_iff_not, Int.not_lt] at hc3
              refine AWp.exit ?_
              refine thenQ_e (thenQ_e (blkQ_e (blkQ_n (thenQ_n ?_))))
              refine hK8 _ _ ?_
              try clear hK8 K8
              refine AWp.mask [true, true, true] rfl ?_
              simp only [go_sem]
              refine AWp.rk fun K19 hK19 => ?_
              try simp only [go_sem, icast]
              (repeat (with_reducible refine And.intro ?_ ?_; omega))
              refine hK19 _ _ ?_
              try clear hK19 K19
              refine thenQ_n ?_
              refine EndS.mk [true, true] [false, false, true] [b6, b7] [] [b3, b2] [] rfl ?_ ?_
              · (try simp only [go_sem]) <;> try rfl
              refine .e ⟨_, ?_, k + 1, rfl, ?_, ?_, ?_⟩
              · first | omega | (simp; omega) | (grind)
              · (try simp only [go_sem]) <;> first | exact ⟨rfl⟩ | (constructor; simp; done)
              · (try simp only [go_sem, fb3, fb6, fb7]) <;> first | exact ⟨rfl⟩ | (constructor; simp; done)
              all_goals (first | omega | assumption | grind)
      · skip
        try simp only [decide_eq_false_iff_not, Int.not_lt] at hc1
        refine AWp.exit ?_
        refine thenQ_e (thenQ_e (blkQ_e (thenQ_n ?_)))
        refine hK4 _ _ ?_
        try clear hK4 K4
        refine AWp.mask [] rfl ?_
        simp only [go_sem]
        refine AWp.rs fun K20 hK20 => ?_
        try simp only [go_sem]
        refine hK20 _ _ ?_
        try clear hK20 K20
        refine AWp.ret ?_
        try simp only [go_sem]
        all_goals done
end Go.Proofs.YthhfbolhlbgbgaaDoor

namespace Go.Proofs.YthhfbolhlbgbgaaDoor
/-- uids rise, and all lie below the next one -/
def uidI (y : BoxS) : Prop := (y.mails.map (·.uid)).Pairwise (· < ·) ∧ ∀ m ∈ y.mails, m.uid < y.next
def UidS (s : St) : Prop := ∀ y ∈ s.boxes, uidI y
theorem ml_U {nx : Int} : ∀ (l : List Mail) (la : Int), mlF nx la l = true → (l.map (·.uid)).Pairwise (· < ·) ∧ (∀ m ∈ l, la < m.uid) ∧ ∀ m ∈ l, m.uid < nx
  | [], _, _ => ⟨.nil, fun m hm => (by cases hm), fun m hm => (by cases hm)⟩
  | m :: r, la, h => by
    rw [mlF, Bool.and_eq_true] at h
    obtain ⟨h1, h2, h3⟩ := ml_U r _ h.2
    have h0 := h.1
    simp only [Bool.and_eq_true, decide_eq_true_eq] at h0
    refine ⟨?_, fun m' hm => ?_, fun m' hm => ?_⟩
    · rw [List.map_cons, List.pairwise_cons]
      refine ⟨fun a ha => ?_, h1⟩
      obtain ⟨m', hm', rfl⟩ := List.mem_map.1 ha
      exact h2 m' hm'
    · rcases List.mem_cons.1 hm with rfl | hm
      · exact h0.1.1.1.1
      · have := h2 m' hm
        omega
    · rcases List.mem_cons.1 hm with rfl | hm
      · exact h0.1.1.1.2
      · exact h3 m' hm
theorem boxOk_U {b : BoxS} (h : boxOk b = true) : uidI b := by
  unfold boxOk at h
  split at h
  · cases h
  · exact ⟨(ml_U _ _ h).1, (ml_U _ _ h).2.2⟩
theorem bx_U : ∀ (l pre : List BoxS), bxF pre l = true → ∀ y ∈ l, uidI y
  | [], _, _, y, hy => by cases hy
  | b :: r, pre, h, y, hy => by
    rw [bxF, Bool.and_eq_true, Bool.and_eq_true] at h
    rcases List.mem_cons.1 hy with rfl | hy
    · exact boxOk_U h.1.1
    · exact bx_U r _ h.2 y hy
theorem stE_U {s : St} (h : stE s = 0) : UidS s := by
  unfold stE at h
  split at h
  · cases h
  split at h
  · cases h
  rename_i h1 h2
  exact bx_U _ [] (by simpa using h2)
theorem set_U {l : List BoxS} {i : Nat} {z : BoxS} (h : ∀ y ∈ l, uidI y) (hz : uidI z) : ∀ y ∈ l.set i z, uidI y := fun y hy => by
  rcases List.mem_or_eq_of_mem_set hy with hy | rfl
  · exact h y hy
  · exact hz
theorem addB_U {x : BoxS} {fl : Int} {tx : Tx} (h : uidI x) : uidI (addB x fl tx) := by
  refine ⟨?_, fun m hm => ?_⟩
  · simp only [addB, List.map_append, List.map_cons, List.map_nil]
    rw [List.pairwise_append]
    refine ⟨h.1, List.pairwise_singleton .., fun a ha b hb => ?_⟩
    obtain ⟨m', hm', rfl⟩ := List.mem_map.1 ha
    rw [List.mem_singleton.1 hb]
    exact h.2 m' hm'
  · simp only [addB, List.mem_append, List.mem_singleton] at hm ⊢
    rcases hm with hm | rfl
    · have := h.2 m hm
      omega
    · show x.next < x.next + 1
      omega
theorem addS_U {l : List BoxS} {i : Nat} {fl : Int} {tx : Tx} (h : ∀ y ∈ l, uidI y) : ∀ y ∈ (addS l i fl tx).1, uidI y := by
  unfold addS
  split
  · exact h
  · rename_i x hx
    split
    · exact h
    · exact set_U h (addB_U (h x (List.mem_of_getElem? hx)))
theorem setFl_U {y : BoxS} {k : Nat} {fl : Int} (h : uidI y) : uidI (setFl y k fl) := by
  unfold setFl
  split
  · rename_i m hm
    obtain ⟨hk, he⟩ := List.getElem?_eq_some_iff.1 hm
    refine ⟨?_, fun m' hm' => ?_⟩
    · show ((y.mails.set k _).map _).Pairwise _
      rw [List.map_set]
      have : (y.mails.map (·.uid)).set k m.uid = y.mails.map (·.uid) := by
        have h1 : (y.mails.map (·.uid))[k]'(by simpa using hk) = m.uid := by rw [List.getElem_map, he]
        rw [← h1, List.set_getElem_self]
      rw [this]
      exact h.1
    · rcases List.mem_or_eq_of_mem_set hm' with hm' | rfl
      · exact h.2 m' hm'
      · exact h.2 m (List.mem_of_getElem? hm)
  · exact h
theorem keep_U {y : BoxS} (h : uidI y) : uidI ⟨y.name, y.next, keepM y.mails⟩ := ⟨h.1.sublist (List.filter_sublist.map _), fun m hm => h.2 m (List.mem_filter.1 hm).1⟩
theorem apB_U {l : List BoxS} {i : Nat} {x : Ent} (h : ∀ y ∈ l, uidI y) : ∀ y ∈ (apB l i x).1, uidI y := by
  unfold apB
  split
  · exact addS_U h
  split
  · exact h
  rename_i y hy
  have hyI := h y (List.mem_of_getElem? hy)
  split
  · exact set_U h (keep_U hyI)
  split
  · exact h
  split
  · exact set_U h (setFl_U hyI)
  split
  · exact h
  split
  · exact h
  · exact addS_U h
theorem apS_U {s : St} {x : Ent} (h : UidS s) : UidS (apS s x).1 := by
  unfold apS
  split
  · split
    · exact h
    · exact h
  split
  · split
    · exact h
    split
    · exact h
    · intro y hy
      rcases List.mem_append.1 hy with hy | hy
      · exact h y hy
      · rw [List.mem_singleton.1 hy]
        exact ⟨.nil, fun m hm => (by cases hm)⟩
  split
  · exact h
  · exact apB_U h
/-- the place of a uid, one mail further on -/
theorem uid_at {l : List Mail} {k : Nat} {u : Int} (hs : (l.map (·.uid)).Pairwise (· < ·)) (h : k < l.length) (he : (l[k]'h).uid = u) : idxI (fun m : Mail => decide (m.uid = u)) (l.take (k + 1)) = k := by
  have hall : ∀ m ∈ l.take k, m.uid ≠ u := fun m hm hu => by
    obtain ⟨j, hj, e⟩ := List.mem_iff_getElem.1 hm
    rw [List.length_take] at hj
    have hjk : j < k := by omega
    rw [List.getElem_take] at e
    have := List.pairwise_iff_getElem.1 hs j k (by simp; omega) (by simpa using h) hjk
    simp only [List.getElem_map, e, he] at this
    omega
  rw [take_succ' h]
  have hl : (l.take k).length = k := by simp; omega
  generalize l.take k = a at hall hl
  subst hl
  clear hs
  revert he
  generalize l[a.length] = m
  intro he
  clear h
  induction a with
  | nil => simp [idxI, he]
  | cons y r ih =>
    have h1 := ih fun m hm => hall m (List.mem_cons_of_mem _ hm)
    have h2 := hall y (List.mem_cons_self ..)
    rw [List.cons_append, idxI, h1, if_neg (by simpa using h2), if_neg (by omega)]
    simp
theorem uid_no {l : List Mail} {k : Nat} {u : Int} (h : k < l.length) (he : ¬ (l[k]'h).uid = u) : idxI (fun m : Mail => decide (m.uid = u)) (l.take (k + 1)) = idxI (fun m : Mail => decide (m.uid = u)) (l.take k) := by
  rw [take_succ' h]
  generalize l.take k = a
  revert he
  generalize l[k] = m
  intro he
  induction a with
  | nil => simp [idxI, he]
  | cons y r ih => rw [List.cons_append, idxI, idxI, ih]
end Go.Proofs.YthhfbolhlbgbgaaDoor

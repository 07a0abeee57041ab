/- Texts that the laws rest on, packed. -/
import Derived.Test.YthhfbolhlbgbgaaDoorHD
import Derived.Test.YthhfbolhlbgbgaaDoorHC
namespace Go.Proofs.YthhfbolhlbgbgaaDoor
set_option linter.unusedSimpArgs false
set_option linter.unusedVariables false
theorem entered_p (T : Tbl) (s : St) (x : Ent) (inv : InvS s) (iu : UidS s) (hx : entE x = 0) : PC Tryd.prog T 70 [.agg (stateA s), .agg (entA x)] (.tup [.agg (stateA (apS s x).1), .d (.int .i64 (apS s x).2)]) :=
  PC.of_ac ((entered_c T s x inv iu hx [] []).mono fun r h hh => hh.1) (by simp [LeA, LeL, LeD, stateA])
theorem AWp.wk1 {P : Program} {T : Tbl} {Q : AQ} {sl : List AV} {code : Code} {L : List Nat} {p q : Nat × Ob} {F : List (Nat × Ob)} (hl : LeObs [p] [q]) (H : AWp P T code Q sl ⟨q :: F, L⟩) : AWp P T code Q sl ⟨p :: F, L⟩ := by
  have e : p.1 = q.1 := by unfold LeObs at hl; exact hl.1
  have ef : (p :: F).map Prod.fst = (q :: F).map Prod.fst := by simp [e]
  refine AWp.leH (h' := ⟨q :: F, L⟩) (fun T G w S => ⟨S.below, S.glob, S.frz, S.fin, fun x hx => ?_, ?_, S.liv, S.tdis, ?_, S.lnd⟩) H
  · rcases List.mem_cons.1 hx with rfl | hx
    · exact LeObs.obj hl (fun y hy => S.obj y (by rw [List.mem_singleton.1 hy]; exact List.mem_cons_self ..)) _ (List.mem_singleton.2 rfl)
    · exact S.obj x (List.mem_cons_of_mem _ hx)
  · have := S.nd
    rw [ef] at this
    exact this
  · intro t ht g hg
    have := S.todis t ht g
    rw [ef] at this
    exact this hg
theorem all_S0 {s : St} {l : List Ent} (h : ¬ (if stE s = 0 ∧ 10 < l.length then (1 : Int) else stE s) = 0) : allS s l = (⟨[], []⟩, if stE s = 0 ∧ 10 < l.length then (1 : Int) else stE s) := by
  unfold allS
  by_cases h0 : stE s = 0
  · by_cases h1 : 10 < l.length
    · simp [h0, h1]
    · simp [h0, h1] at h
  · simp [h0]
theorem all_Sf {s : St} {l : List Ent} (h : (if stE s = 0 ∧ 10 < l.length then (1 : Int) else stE s) = 0) : stE s = 0 ∧ ¬ 10 < l.length := by
  by_cases h0 : stE s = 0
  · by_cases h1 : 10 < l.length
    · simp [h0, h1] at h
    · exact ⟨h0, h1⟩
  · simp [h0] at h
theorem all_SS {s : St} {l : List Ent} (h : stE s = 0 ∧ ¬ 10 < l.length) : allS s l = allF s l := by rw [allS, if_neg (by simp [h.1]), if_neg h.2]
theorem all_FI : ∀ (l : List Ent) {s : St}, InvS s → InvS (allF s l).1
  | [], s, h => h
  | x :: r, s, h => by
    rw [allF]
    split
    · exact ⟨by simp, by simp, fun y hy => by cases hy⟩
    rename_i hx
    split
    · exact ⟨by simp, by simp, fun y hy => by cases hy⟩
    · exact all_FI r (apS_I h (by omega))
theorem all_SI (s : St) (l : List Ent) : InvS (allS s l).1 := by
  unfold allS
  split
  · exact ⟨by simp, by simp, fun y hy => by cases hy⟩
  rename_i h
  split
  · exact ⟨by simp, by simp, fun y hy => by cases hy⟩
  · exact all_FI l (stE_I (by omega))
set_option maxRecDepth 4000 in
set_option maxHeartbeats 1000000 in
theorem Entered_c (T : Tbl) (hL : LibT T) (s : St) (l : List Ent) (ok : StOk s) (okl : ∀ x ∈ l, EntOk x) (F : List (Nat × Ob)) (L : List Nat) : AC Tryd.prog T 29 [.agg (stateA s), .d (.slc 6 (entsD l))] (⟨F, L⟩) (fun r h => r = .ret (.tup [.agg (stateA (allS s l).1), .d (.int .i64 ((allS s l).2))]) ∧ h = ⟨F, L⟩) := by
  refine ⟨Tryd.call29, ACalls.enterS Tryd.func29 rfl Tryd.ntmps29 rfl fun hb => ?_⟩
  simp only [go_sem, Tryd.results29]
  refine AWp.rs fun K1 hK1 => ?_
  try simp only [go_sem]
  intro b2
  first | intro fb2 | have fb2 := True.intro
  try simp only [freshL] at fb2
  intro b4
  first | intro fb4 | have fb4 := True.intro
  try simp only [freshL] at fb4
  refine hK1 _ _ ?_
  try clear hK1 K1
  refine AWp.rs fun K2 hK2 => ?_
  try simp only [go_sem, fb4]
  refine DW.pcr rfl rfl rfl rfl (StateFault_c T hL s ok) rfl rfl ?_
  try simp only [go_sem]
  refine hK2 _ _ ?_
  try clear hK2 K2
  refine AWp.mask [false, true, true, true, false, true] rfl ?_
  simp only [go_sem]
  refine AWp.seq fun K3 hK3 => ?_
  refine AWp.rs fun K4 hK4 => ?_
  try simp only [go_sem]
  refine hK4 _ _ ?_
  try clear hK4 K4
  refine AWp.mask [true, true, true, true, false, false, false, false, false, false, true] rfl ?_
  simp only [go_sem]
  refine AWp.joinK hK3 [true, true, true] (fun lc hc => EqS lc [(6, .d (.int .i64 (if stE s = 0 ∧ 10 < l.length then (1 : Int) else stE s)))] ∧ EqS hc (⟨(b4, ⟨2, 1, [[.nils, .nils]]⟩) :: (b2, ⟨2, 1, [stateA s]⟩) :: F, L⟩)) ?_ ?_
  · skip
    refine AWp.cond _ rfl (fun hc0 => ?_) (fun hc0 => ?_)
    · skip
      try simp only [decide_eq_true_eq, Bool.and_eq_true] at hc0
      refine AWp.rk fun K5 hK5 => ?_
      try simp only [go_sem]
      refine hK5 _ _ ?_
      try clear hK5 K5
      refine thenQ_n ?_
      refine EndS.mk [true, true, true] [false, false, false, true] [] [] [b4, b2] [] rfl ?_ ?_
      · (try simp only [go_sem]) <;> try rfl
      refine .e ⟨?_, ?_⟩
      · (try simp only [go_sem]) <;> first | exact ⟨rfl⟩ | (constructor; first | (rw [if_pos (show stE s = 0 ∧ 10 < l.length from ⟨by omega, by omega⟩)]; done) | (rw [if_neg (show ¬ (stE s = 0 ∧ 10 < l.length) by omega)]; done))
      · (try simp only [go_sem, fb4]) <;> first | exact ⟨rfl⟩ | (constructor; grind)
    · skip
      try simp only [decide_eq_false_iff_not, Bool.and_eq_false_iff, Int.not_lt] at hc0
      refine AWp.skip ?_
      refine thenQ_n ?_
      refine EndS.mk [true, true, true] [false, false, false, true] [] [] [b4, b2] [] rfl ?_ ?_
      · (try simp only [go_sem]) <;> try rfl
      refine .e ⟨?_, ?_⟩
      · (try simp only [go_sem]) <;> first | exact ⟨rfl⟩ | (constructor; first | (rw [if_pos (show stE s = 0 ∧ 10 < l.length from ⟨by omega, by omega⟩)]; done) | (rw [if_neg (show ¬ (stE s = 0 ∧ 10 < l.length) by omega)]; done))
      · (try simp only [go_sem, fb4]) <;> first | exact ⟨rfl⟩ | (constructor; grind)
  · rintro _ _ ⟨⟨rfl⟩, ⟨rfl⟩⟩
    simp only [go_sem]
    refine AWp.seq fun K6 hK6 => ?_
    refine AWp.rs fun K7 hK7 => ?_
    try simp only [go_sem]
    refine hK7 _ _ ?_
    try clear hK7 K7
    refine AWp.cond _ rfl (fun hc1 => ?_) (fun hc1 => ?_)
    · skip
      try simp only [decide_eq_false_iff_not, Bool.not_eq_true'] at hc1
      refine AWp.rs fun K8 hK8 => ?_
      try simp only [go_sem, fb4]
      refine hK8 _ _ ?_
      try clear hK8 K8
      refine AWp.mask [false, false, true, true] rfl ?_
      simp only [go_sem]
      refine AWp.ret ?_
      try simp only [thenQ]
      apply endW_r [b2, b4] [] [] [] (by (try simp only [go_sem, fb4]); rfl)
      · exact ⟨rfl, by simp [go_sem]⟩
      · rw [all_S0 hc1]; simp [LeA, LeL, LeD, boxesD, entsD]
    · skip
      try simp only [decide_eq_true_eq, Bool.not_eq_false'] at hc1
      have hok := all_Sf hc1
      have inv0 := stE_I hok.1
      have iu0 := stE_U hok.1
      refine AWp.skip ?_
      refine thenQ_n ?_
      refine hK6 _ _ ?_
      try clear hK6 K6
      refine AWp.rs fun K9 hK9 => ?_
      try simp only [go_sem, fb4]
      refine DW.acp [] [] rfl rfl rfl rfl (by (try simp only [go_sem]); rfl) rfl (copy_cr T s (Nat.le_trans inv0.bx (by decide)) (fun y hy => Nat.le_trans (inv0.al y hy).1 (by decide)) (Nat.le_trans inv0.sp (by decide)) [_, _] _ _) ?_
      rintro _ _ ⟨l0, bb0, cb0, u, hl0, hcb0, hu0, rfl, rfl⟩
      simp only [List.cons_append, List.nil_append]
      have e1 := plain_mA
      simp only [AV.plain, AV.one] at e1
      have e2 := cells_mA
      unfold AV.cells at e2
      try simp only [freshT, freshL] at e1
      try simp only [freshT, freshL] at e2
      try simp only [go_sem]
      intro b7
      first | intro fb7 | have fb7 := True.intro
      try simp only [freshL] at fb7
      refine hK9 _ _ ?_
      try clear hK9 K9
      refine AWp.mask [true, false, true, false, true] rfl ?_
      simp only [go_sem]
      refine AWp.seq fun K10 hK10 => ?_
      refine AWp.iceB (b7 := b7) (l := l0) (F := F) [_, _] hcb0 ?_
      simp only [List.cons_append, List.nil_append]
      rw [hl0]
      refine AWp.wk1 (q := (b7, ⟨2, 1, [stateA s]⟩)) (by simp [LeObs, LeRows, LeA, LeL, LeD, AV.one, stateA]) ?_
      · skip
        refine AWp.rs fun K11 hK11 => ?_
        try simp only [go_sem]
        refine hK11 _ _ ?_
        try clear hK11 K11
        refine AWp.block ?_
        refine AWp.loopS [true, true, true] [false, false, false, true] (fun n lc hc => ∃ (k : Nat) (s2 : St), n = l.length - k ∧ EqS lc [(8, .d (.int .i64 k))] ∧ EqS hc (⟨(b7, ⟨2, 1, [stateA s2]⟩) :: (b4, ⟨2, 1, [[.nils, .nils]]⟩) :: (b2, ⟨2, 1, [stateA s]⟩) :: F, u :: L⟩) ∧ (k ≤ l.length) ∧ (InvS s2) ∧ (UidS s2) ∧ (allF s l = allF s2 (l.drop k))) rfl ?_ ?_
        · refine ⟨_, 0, s, rfl, ?_, ?_, ?_, ?_, ?_, ?_⟩
          · (try simp only [go_sem]) <;> first | exact ⟨rfl⟩ | (constructor; simp; done)
          · (try simp only [go_sem]) <;> first | exact ⟨rfl⟩ | (constructor; simp; done)
          all_goals (first | omega | assumption | rfl)
        · rintro _ _ _ ⟨k, s2, rfl, ⟨rfl⟩, ⟨rfl⟩, h1, h2, h3, h5⟩
          simp only [go_sem]
          refine AWp.seq fun K12 hK12 => ?_
          refine AWp.rs fun K13 hK13 => ?_
          try simp only [go_sem]
          refine hK13 _ _ ?_
          try clear hK13 K13
          refine AWp.cond _ rfl (fun hc2 => ?_) (fun hc2 => ?_)
          · skip
            try simp only [decide_eq_true_eq] at hc2
            have hlt : k < l.length := by omega
            refine AWp.skip ?_
            refine thenQ_n ?_
            refine hK12 _ _ ?_
            try clear hK12 K12
            refine AWp.mask [true, true, true, true] rfl ?_
            simp only [go_sem]
            refine AWp.seq fun K14 hK14 => ?_
            refine AWp.block ?_
            refine AWp.rs fun K15 hK15 => ?_
            try simp only [go_sem, entsD_get l k _ hlt, entD]
            (repeat (with_reducible refine And.intro ?_ ?_; omega))
            refine DW.pcr rfl rfl rfl rfl (EntryFault_e T hL (okl _ (List.getElem_mem hlt))) rfl rfl ?_
            try simp only [go_sem]
            refine hK15 _ _ ?_
            try clear hK15 K15
            refine AWp.mask [true, true, true, true, true] rfl ?_
            simp only [go_sem]
            refine AWp.seq fun K16 hK16 => ?_
            refine AWp.rs fun K17 hK17 => ?_
            try simp only [go_sem]
            refine hK17 _ _ ?_
            try clear hK17 K17
            refine AWp.cond _ rfl (fun hc3 => ?_) (fun hc3 => ?_)
            · skip
              try simp only [decide_eq_false_iff_not, Bool.not_eq_true'] at hc3
              refine AWp.rs fun K18 hK18 => ?_
              try simp only [go_sem, fb4, fb7]
              refine hK18 _ _ ?_
              try clear hK18 K18
              refine AWp.mask [false, true, true] rfl ?_
              simp only [go_sem]
              refine AWp.ret ?_
              try simp only [thenQ, blkQ]
              apply endW_r [b2, b4, b7] [u] [] [] (by (try simp only [go_sem, fb4, fb7]); rfl)
              · exact ⟨rfl, by simp [go_sem]⟩
              · rw [all_SS hok, h5, all_e hlt hc3]; simp [LeA, LeL, LeD, boxesD, entsD]
            · skip
              try simp only [decide_eq_true_eq, Bool.not_eq_false'] at hc3
              refine AWp.skip ?_
              refine thenQ_n ?_
              refine hK16 _ _ ?_
              try clear hK16 K16
              refine AWp.dsN true [] [0, 1, 2, 3, 4, 5, 6, 7, 8] [9] 10 [11] rfl (by kernel_rfl) rfl fun K19 hK19 => ?_
              try simp only [go_sem]
              refine Exists.intro (fun h' : AH => getO b7 h'.objs = some ⟨2, 1, [stateA s2]⟩) (And.intro (by simp [getO, stateA]) ?_)
              try simp only [go_sem]
              refine FRN.ld rfl rfl (fun h' m1 => (by first | rfl | (simp only [go_sem, m1]; first | done | rfl | exact ⟨by omega, rfl⟩))) ?_
              try simp only [go_sem]
              refine FRN.op rfl (fun h' => (by first | rfl | (simp only [go_sem]; first | done | rfl | exact ⟨by omega, rfl⟩))) ?_
              try simp only [go_sem]
              refine FRN.op rfl (fun h' => (by first | rfl | (simp only [go_sem]; first | done | rfl | exact ⟨by omega, rfl⟩))) ?_
              try simp only [go_sem]
              refine FRN.op rfl (fun h' => (by first | rfl | (simp only [go_sem]; first | done | rfl | exact ⟨by omega, rfl⟩))) ?_
              try simp only [go_sem]
              refine FRN.ld rfl rfl (fun h' m1 => (by first | rfl | (simp only [go_sem, entsD_get l k _ hlt, entD]; first | done | rfl | exact ⟨by omega, rfl⟩))) ?_
              try simp only [go_sem]
              refine FRN.call rfl rfl rfl rfl (entered_p T s2 (l[k]'hlt) h2 h3 (by omega)) rfl rfl ?_
              try simp only [go_sem]
              refine FRN.op rfl (fun h' => (by first | rfl | (simp only [go_sem]; first | done | rfl | exact ⟨by omega, rfl⟩))) ?_
              try simp only [go_sem]
              refine FRN.op rfl (fun h' => (by first | rfl | (simp only [go_sem]; first | done | rfl | exact ⟨by omega, rfl⟩))) ?_
              try simp only [go_sem]
              refine FRN.op rfl (fun h' => (by first | rfl | (simp only [go_sem]; first | done | rfl | exact ⟨by omega, rfl⟩))) ?_
              try simp only [go_sem]
              refine FRN.nil ?_
              refine lvc_ok _ _ _ ?_
              try simp only [go_sem, fb7]
              intro b10
              first | intro fb10 | have fb10 := True.intro
              try simp only [freshL] at fb10
              try simp only [go_sem, fb10]
              first | with_reducible refine And.intro (by simp [getO, stateA, icast, fb2, fb4, fb7, entsD_get l k _ hlt, entD, entA, fb10]) ?_ | skip
              refine lvc_ok _ _ _ ?_
              try simp only [go_sem, fb10]
              refine hK19 _ _ ?_
              try clear hK19 K19
              refine AWp.mask [true, true, true, true, false, true, true] rfl ?_
              simp only [go_sem]
              refine AWp.seq fun K20 hK20 => ?_
              refine AWp.rs fun K21 hK21 => ?_
              try simp only [go_sem]
              refine hK21 _ _ ?_
              try clear hK21 K21
              refine AWp.cond _ rfl (fun hc4 => ?_) (fun hc4 => ?_)
              · skip
                try simp only [decide_eq_false_iff_not, Bool.not_eq_true'] at hc4
                refine AWp.rs fun K22 hK22 => ?_
                try simp only [go_sem, fb4, fb7, fb10]
                refine hK22 _ _ ?_
                try clear hK22 K22
                refine AWp.mask [false, true, true] rfl ?_
                simp only [go_sem]
                refine AWp.ret ?_
                try simp only [thenQ, blkQ]
                apply endW_r [b2, b4, b7, b10] [u] [] [] (by (try simp only [go_sem, fb4, fb7, fb10]); rfl)
                · exact ⟨rfl, by simp [go_sem]⟩
                · rw [all_SS hok, h5, all_a hlt (by omega) hc4]; simp [LeA, LeL, LeD, boxesD, entsD]
              · skip
                try simp only [decide_eq_true_eq, Bool.not_eq_false'] at hc4
                refine AWp.skip ?_
                refine thenQ_n ?_
                refine hK20 _ _ ?_
                try clear hK20 K20
                refine AWp.rk fun K23 hK23 => ?_
                try simp only [go_sem, fb7, fb10]
                refine hK23 _ _ ?_
                try clear hK23 K23
                refine blkQ_n (thenQ_n ?_)
                refine hK14 _ _ ?_
                try clear hK14 K14
                refine AWp.mask [true, true, true, true] rfl ?_
                simp only [go_sem]
                refine AWp.rk fun K24 hK24 => ?_
                try simp only [go_sem, icast]
                (repeat (with_reducible refine And.intro ?_ ?_; omega))
                refine hK24 _ _ ?_
                try clear hK24 K24
                refine thenQ_n ?_
                refine EndS.mk [true, true, true] [false, false, false, true] [b10] [] [b7, b4, b2] [u] rfl ?_ ?_
                · (try simp only [go_sem]) <;> try rfl
                refine .e ⟨_, ?_, k + 1, (apS s2 (l[k]'hlt)).1, rfl, ?_, ?_, ?_, ?_, ?_, ?_⟩
                · first | omega | (simp; omega) | (grind)
                · (try simp only [go_sem]) <;> first | exact ⟨rfl⟩ | (constructor; simp; done)
                · (try simp only [go_sem, fb4, fb7, fb10]) <;> first | exact ⟨rfl⟩ | (constructor; simp; done)
                · omega
                · exact apS_I h2 (by omega)
                · exact apS_U h3
                · rw [h5, all_t hlt (by omega) hc4]
          · skip
            try simp only [decide_eq_false_iff_not, Int.not_lt] at hc2
            refine AWp.exit ?_
            refine thenQ_e (thenQ_e (blkQ_e (thenQ_n ?_)))
            refine hK10 _ _ ?_
            try clear hK10 K10
            refine AWp.mask [false, true, true] rfl ?_
            simp only [go_sem]
            refine AWp.rs fun K25 hK25 => ?_
            try simp only [go_sem, fb4, fb7]
            refine hK25 _ _ ?_
            try clear hK25 K25
            refine AWp.ret ?_
            apply endW_r [b2, b4, b7] [u] [] [] (by (try simp only [go_sem, fb4, fb7]); rfl)
            · exact ⟨rfl, by simp [go_sem]⟩
            · rw [all_SS hok, h5, all_end (by omega)]; simp [LeA, LeL, LeD, boxesD, entsD]
theorem Entered_p (T : Tbl) (hL : LibT T) (s : St) (l : List Ent) (ok : StOk s) (okl : ∀ x ∈ l, EntOk x) : PC Tryd.prog T 29 [.agg (stateA s), .d (.slc 6 (entsD l))] (.tup [.agg (stateA (allS s l).1), .d (.int .i64 (allS s l).2)]) :=
  PC.of_ac ((Entered_c T hL s l ok okl [] []).mono fun r h hh => hh.1) (by simp [LeA, LeL, LeD, stateA])
end Go.Proofs.YthhfbolhlbgbgaaDoor

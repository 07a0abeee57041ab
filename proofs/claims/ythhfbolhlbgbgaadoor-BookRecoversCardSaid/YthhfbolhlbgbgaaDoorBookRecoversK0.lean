/- Texts that the law BookRecovers rests on, packed. -/
import Derived.Test.YthhfbolhlbgbgaaDoorGP
import Derived.Test.YthhfbolhlbgbgaaDoorGC
import Derived.Test.YthhfbolhlbgbgaaDoorGQ
import Derived.Test.YthhfbolhlbgbgaaDoorGD
namespace Go.Proofs.YthhfbolhlbgbgaaDoor
set_option linter.unusedSimpArgs false
set_option linter.unusedVariables false
set_option maxRecDepth 4000 in
set_option maxHeartbeats 1000000 in
theorem TapeAppended_c (T : Tbl) (hL : LibT T) (d : Tx) (sy u : Int) (l : List Ent) (oke : ∀ x ∈ l, EntOk x) : PC Tryd.prog T 22 [.agg [.d (.slc 1 (byteRows (d))), .d (.int .i64 sy)], .agg [.d (.int .i64 u), .d (.slc 6 (entsD l))]] (.tup [.agg [.d (.slc 1 (byteRows ((apR d sy u l).1))), .d (.int .i64 ((apR d sy u l).2.1))], .d (.int .i64 ((apR d sy u l).2.2))]) := by
  refine ⟨Tryd.call22, PCall.enterS Tryd.func22 rfl Tryd.ntmps22 rfl fun hb => ?_⟩
  simp only [go_sem, Tryd.results22]
  refine AWp.rs fun K1 hK1 => ?_
  try simp only [go_sem, icast, byteRows_len, encV, byteRows_one, byteRows_cons]
  intro b2
  first | intro fb2 | have fb2 := True.intro
  try simp only [freshL] at fb2
  intro b3
  first | intro fb3 | have fb3 := True.intro
  try simp only [freshL] at fb3
  intro b4
  first | intro fb4 | have fb4 := True.intro
  try simp only [freshL] at fb4
  refine hK1 _ _ ?_
  try clear hK1 K1
  refine AWp.seq fun K2 hK2 => ?_
  by_cases ok : TapeOk d sy
  · skip
    refine AWp.rs fun K3 hK3 => ?_
    try simp only [go_sem, icast, byteRows_len, encV, byteRows_one, byteRows_cons, fb2, fb3, fb4]
    refine DW.pcr rfl rfl rfl rfl (TapeMay_ok T d sy ok) rfl rfl ?_
    try simp only [go_sem, icast, byteRows_len, encV, byteRows_one, byteRows_cons, fb2, fb3, fb4]
    refine hK3 _ _ ?_
    try clear hK3 K3
    refine AWp.mask [false, false, true, true, true, false, false, false, true] rfl ?_
    simp only [go_sem]
    refine AWp.cond _ rfl (fun hc0 => ?_) (fun hc0 => ?_)
    · skip
      exact absurd hc0 (by simp)
    · skip
      try simp only [decide_eq_true_eq, decide_eq_false_iff_not, Bool.not_eq_true', Bool.not_eq_false', Bool.and_eq_true, Bool.or_eq_true, Bool.and_eq_false_iff, Bool.or_eq_false_iff, Int.not_lt, Int.not_le, beq_iff_eq, beq_eq_false_iff_ne, ne_eq, Bool.not_eq_true, Bool.not_eq_false] at hc0
      obtain ⟨ok1, ok2, ok3⟩ := id ok
      refine AWp.skip ?_
      refine thenQ_n ?_
      refine hK2 _ _ ?_
      try clear hK2 K2
      refine AWp.rs fun K4 hK4 => ?_
      try simp only [go_sem, icast, byteRows_len, encV, byteRows_one, byteRows_cons, fb2, fb3, fb4]
      refine DW.pcr rfl rfl rfl rfl (BatchBytes_c T hL u l oke) rfl rfl ?_
      try simp only [go_sem, icast, byteRows_len, encV, byteRows_one, byteRows_cons, fb2, fb3, fb4]
      refine hK4 _ _ ?_
      try clear hK4 K4
      refine AWp.mask [true, false, true, true, true] rfl ?_
      simp only [go_sem]
      refine AWp.seq fun K5 hK5 => ?_
      refine AWp.rs fun K6 hK6 => ?_
      try simp only [go_sem, icast, byteRows_len, encV, byteRows_one, byteRows_cons, fb2, fb3, fb4]
      refine hK6 _ _ ?_
      try clear hK6 K6
      refine AWp.cond _ rfl (fun hc1 => ?_) (fun hc1 => ?_)
      · skip
        try simp only [decide_eq_true_eq, decide_eq_false_iff_not, Bool.not_eq_true', Bool.not_eq_false', Bool.and_eq_true, Bool.or_eq_true, Bool.and_eq_false_iff, Bool.or_eq_false_iff, Int.not_lt, Int.not_le, beq_iff_eq, beq_eq_false_iff_ne, ne_eq, Bool.not_eq_true, Bool.not_eq_false] at hc1
        refine AWp.rs fun K7 hK7 => ?_
        try simp only [go_sem, icast, byteRows_len, encV, byteRows_one, byteRows_cons, fb2, fb3, fb4]
        refine hK7 _ _ ?_
        try clear hK7 K7
        refine AWp.mask [false, true, true] rfl ?_
        simp only [go_sem]
        refine AWp.ret ?_
        try simp only [go_sem, icast, byteRows_len, encV, byteRows_one, byteRows_cons, fb2, fb3, fb4]
        rw [ap_2 ok hc1]; simp [LeA, LeL, LeD, byteRows]
      · skip
        try simp only [decide_eq_true_eq, decide_eq_false_iff_not, Bool.not_eq_true', Bool.not_eq_false', Bool.and_eq_true, Bool.or_eq_true, Bool.and_eq_false_iff, Bool.or_eq_false_iff, Int.not_lt, Int.not_le, beq_iff_eq, beq_eq_false_iff_ne, ne_eq, Bool.not_eq_true, Bool.not_eq_false] at hc1
        have hbl := batS_len hc1
        rw [encT_0 hc1] at *
        have hw3 := wide3 ((batS u l).length : Int) (by omega)
        refine AWp.skip ?_
        refine thenQ_n ?_
        refine hK5 _ _ ?_
        try clear hK5 K5
        refine AWp.rs fun K8 hK8 => ?_
        try simp only [go_sem, icast, byteRows_len, encV, byteRows_one, byteRows_cons, fb2, fb3, fb4]
        refine hK8 _ _ ?_
        try clear hK8 K8
        refine AWp.mask [true, true, true, false, true] rfl ?_
        simp only [go_sem]
        refine AWp.rs fun K9 hK9 => ?_
        try simp only [go_sem, icast, byteRows_len, encV, byteRows_one, byteRows_cons, fb2, fb3, fb4]
        (repeat (with_reducible refine And.intro ?_ ?_; (first | omega | (simp; omega))))
        refine DW.pcr rfl rfl rfl rfl (joined_c T [ub (((batS u l).length : Int).tdiv 65536), ub ((((batS u l).length : Int).tdiv 256).tmod 256), ub (((batS u l).length : Int).tmod 256)] (batS u l) (by simp only [List.length_cons, List.length_nil]; omega)) rfl rfl ?_
        try simp only [go_sem, icast, byteRows_len, encV, byteRows_one, byteRows_cons, fb2, fb3, fb4]
        refine hK9 _ _ ?_
        try clear hK9 K9
        refine AWp.mask [true, true, true] rfl ?_
        simp only [go_sem]
        refine AWp.seq fun K10 hK10 => ?_
        have hw4 : [ub (((batS u l).length : Int).tdiv 65536), ub ((((batS u l).length : Int).tdiv 256).tmod 256), ub (((batS u l).length : Int).tmod 256)] ++ batS u l = wideR ((batS u l).length : Int) 3 ++ batS u l := by rw [hw3]
        simp only [List.cons_append, List.nil_append] at hw4
        rw [hw4]
        have hwl : (wideR ((batS u l).length : Int) 3 ++ batS u l).length = 3 + (batS u l).length := by rw [List.length_append, wideR_len]
        · skip
          refine AWp.rs fun K11 hK11 => ?_
          try simp only [go_sem, icast, byteRows_len, encV, byteRows_one, byteRows_cons, fb2, fb3, fb4, hwl]
          (repeat (with_reducible refine And.intro ?_ ?_; omega))
          refine hK11 _ _ ?_
          try clear hK11 K11
          refine AWp.mask [true, true, true, false, false, false, false, false, false, true] rfl ?_
          simp only [go_sem]
          refine AWp.cond _ rfl (fun hc2 => ?_) (fun hc2 => ?_)
          · skip
            try simp only [decide_eq_true_eq, decide_eq_false_iff_not, Bool.not_eq_true', Bool.not_eq_false', Bool.and_eq_true, Bool.or_eq_true, Bool.and_eq_false_iff, Bool.or_eq_false_iff, Int.not_lt, Int.not_le, beq_iff_eq, beq_eq_false_iff_ne, ne_eq, Bool.not_eq_true, Bool.not_eq_false] at hc2
            refine AWp.rs fun K12 hK12 => ?_
            try simp only [go_sem, icast, byteRows_len, encV, byteRows_one, byteRows_cons, fb2, fb3, fb4, hwl]
            refine hK12 _ _ ?_
            try clear hK12 K12
            refine AWp.mask [false, true, true] rfl ?_
            simp only [go_sem]
            refine AWp.ret ?_
            try simp only [go_sem, icast, byteRows_len, encV, byteRows_one, byteRows_cons, fb2, fb3, fb4, hwl]
            rw [ap_3 ok hc1 (by omega)]; simp [LeA, LeL, LeD, byteRows]
          · skip
            try simp only [decide_eq_true_eq, decide_eq_false_iff_not, Bool.not_eq_true', Bool.not_eq_false', Bool.and_eq_true, Bool.or_eq_true, Bool.and_eq_false_iff, Bool.or_eq_false_iff, Int.not_lt, Int.not_le, beq_iff_eq, beq_eq_false_iff_ne, ne_eq, Bool.not_eq_true, Bool.not_eq_false] at hc2
            refine AWp.skip ?_
            refine thenQ_n ?_
            refine hK10 _ _ ?_
            try clear hK10 K10
            refine AWp.ds true [0, 1, 2, 3, 4, 5, 6, 7, 8] rfl (by kernel_rfl) fun K13 hK13 => ?_
            try simp only [go_sem, icast, byteRows_len, encV, byteRows_one, byteRows_cons, fb2, fb3, fb4, hwl]
            refine DW.pcr rfl rfl rfl rfl (joined_c T d (wideR ((batS u l).length : Int) 3 ++ batS u l) (by rw [hwl]; omega)) rfl rfl ?_
            try simp only [go_sem, icast, byteRows_len, encV, byteRows_one, byteRows_cons, fb2, fb3, fb4, hwl]
            refine hK13 _ _ ?_
            try clear hK13 K13
            refine AWp.mask [false, true, true] rfl ?_
            simp only [go_sem]
            refine AWp.ret ?_
            try simp only [go_sem, icast, byteRows_len, encV, byteRows_one, byteRows_cons, fb2, fb3, fb4, hwl]
            rw [ap_4 ok hc1 (by omega)]; simp [LeA, LeL, LeD, byteRows]
  · skip
    have no := ok
    refine AWp.rs fun K3 hK3 => ?_
    try simp only [go_sem, icast, byteRows_len, encV, byteRows_one, byteRows_cons, fb2, fb3, fb4]
    refine DW.pcr rfl rfl rfl rfl (TapeMay_no T d sy no) rfl rfl ?_
    try simp only [go_sem, icast, byteRows_len, encV, byteRows_one, byteRows_cons, fb2, fb3, fb4]
    refine hK3 _ _ ?_
    try clear hK3 K3
    refine AWp.mask [false, false, true, true, true, false, false, false, true] rfl ?_
    simp only [go_sem]
    refine AWp.cond _ rfl (fun hc0 => ?_) (fun hc0 => ?_)
    · skip
      try simp only [decide_eq_true_eq, decide_eq_false_iff_not, Bool.not_eq_true', Bool.not_eq_false', Bool.and_eq_true, Bool.or_eq_true, Bool.and_eq_false_iff, Bool.or_eq_false_iff, Int.not_lt, Int.not_le, beq_iff_eq, beq_eq_false_iff_ne, ne_eq, Bool.not_eq_true, Bool.not_eq_false] at hc0
      refine AWp.rs fun K14 hK14 => ?_
      try simp only [go_sem, icast, byteRows_len, encV, byteRows_one, byteRows_cons, fb2, fb3, fb4]
      refine hK14 _ _ ?_
      try clear hK14 K14
      refine AWp.mask [false, false, true, true] rfl ?_
      simp only [go_sem]
      refine AWp.ret ?_
      try simp only [go_sem, icast, byteRows_len, encV, byteRows_one, byteRows_cons, fb2, fb3, fb4]
      rw [ap_1 ok]; simp [LeA, LeL, LeD, byteRows]
    · skip
      exact absurd hc0 (by simp)
set_option maxRecDepth 4000 in
set_option maxHeartbeats 1000000 in
theorem tapes_c (T : Tbl) (d : Tx) (sy : Int) (hd : d.length ≤ 140737488355328) : PC Tryd.prog T 19 [.agg [.d (.slc 1 (byteRows (d))), .d (.int .i64 sy)]] (.agg [.d (.slc 1 (byteRows (d))), .d (.int .i64 sy)]) := by
  refine ⟨Tryd.call19, PCall.enterS Tryd.func19 rfl Tryd.ntmps19 rfl fun hb => ?_⟩
  simp only [go_sem, Tryd.results19]
  refine AWp.rs fun K1 hK1 => ?_
  try simp only [go_sem]
  intro b1
  first | intro fb1 | have fb1 := True.intro
  try simp only [freshL] at fb1
  intro b2
  first | intro fb2 | have fb2 := True.intro
  try simp only [freshL] at fb2
  refine hK1 _ _ ?_
  try clear hK1 K1
  refine AWp.dsC [] AgK.nil rfl [0, 1, 3] 4 [2] [5, 6] rfl (by kernel_rfl) rfl fun K2 hK2 => ?_
  try simp only [go_sem, fb1, fb2]
  try with_reducible refine Exists.intro _ (And.intro (by first | rfl | (simp only [go_sem, fb1, fb2]; first | rfl | exact ⟨by omega, rfl⟩)) ?_)
  refine DW.appNil rfl rfl rfl rfl (show slI Tryd.prog 33 = some (5, 1, 1) by simp only [go_sem]) rfl rfl (by first | exact .inl rfl | exact .inr rfl) (by (try simp only [go_sem, byteRows_len]); omega) (by (try simp only [go_sem, byteRows_len]); omega) fun t1 ft1 => ?_
  try simp only [freshT] at ft1
  try simp only [go_sem, fb1, fb2, ft1]
  try with_reducible refine And.intro (by first | rfl | (simp only [go_sem, fb1, fb2, ft1]; first | done | rfl | exact ⟨by omega, rfl⟩)) ?_
  refine hK2 _ _ ?_
  try clear hK2 K2
  refine AWp.mask [false, false, true] rfl ?_
  simp only [go_sem]
  refine AWp.ret ?_
  try simp only [go_sem, fb1, fb2, ft1]
  try simp [LeA, LeL, LeD]
set_option maxRecDepth 4000 in
set_option maxHeartbeats 1000000 in
theorem sameTape_c (T : Tbl) (d : Tx) (sy : Int) : PC Tryd.prog T 23 [.agg [.d (.slc 1 (byteRows (d))), .d (.int .i64 sy)], .agg [.d (.slc 1 (byteRows (d))), .d (.int .i64 sy)]] (.d (.bool true)) := by
  refine ⟨Tryd.call23, PCall.enterS Tryd.func23 rfl Tryd.ntmps23 rfl fun hb => ?_⟩
  simp only [go_sem, Tryd.results23]
  refine AWp.rs fun K1 hK1 => ?_
  try simp only [go_sem, decide_true, bytesOf_byteRows]
  intro b2
  first | intro fb2 | have fb2 := True.intro
  try simp only [freshL] at fb2
  intro b3
  first | intro fb3 | have fb3 := True.intro
  try simp only [freshL] at fb3
  refine hK1 _ _ ?_
  try clear hK1 K1
  refine AWp.rs fun K2 hK2 => ?_
  try simp only [go_sem, decide_true, bytesOf_byteRows, fb2, fb3]
  refine hK2 _ _ ?_
  try clear hK2 K2
  refine AWp.mask [false, false, false, false, true] rfl ?_
  simp only [go_sem]
  refine AWp.ret ?_
  try simp only [go_sem, decide_true, bytesOf_byteRows, fb2, fb3]
  try simp [LeA, LeL, LeD]
set_option maxRecDepth 4000 in
set_option maxHeartbeats 1000000 in
theorem bookAppends_c (T : Tbl) (hL : LibT T) (d : Tx) (sy u : Int) (l : List Ent) (oke : ∀ x ∈ l, EntOk x) (hd : d.length ≤ 140737488355328) (hz : l.length * 72 ≤ 140737488355328) : PC Tryd.prog T 4 [.agg [.d (.slc 1 (byteRows (d))), .d (.int .i64 sy)], .agg [.d (.int .i64 u), .d (.slc 6 (entsD l))]] (.d (.bool true)) := by
  refine ⟨Tryd.call4, PCall.enterS Tryd.func4 rfl Tryd.ntmps4 rfl fun hb => ?_⟩
  simp only [go_sem, Tryd.results4]
  refine AWp.rs fun K1 hK1 => ?_
  try simp only [go_sem, decide_true, Bool.true_and]
  intro b2
  first | intro fb2 | have fb2 := True.intro
  try simp only [freshL] at fb2
  intro b3
  first | intro fb3 | have fb3 := True.intro
  try simp only [freshL] at fb3
  refine hK1 _ _ ?_
  try clear hK1 K1
  refine AWp.rs fun K2 hK2 => ?_
  try simp only [go_sem, decide_true, Bool.true_and, fb2, fb3]
  refine DW.pcr rfl rfl rfl rfl (tapes_c T d sy hd) rfl rfl ?_
  try simp only [go_sem, decide_true, Bool.true_and, fb2, fb3]
  intro b5
  first | intro fb5 | have fb5 := True.intro
  try simp only [freshL] at fb5
  refine hK2 _ _ ?_
  try clear hK2 K2
  refine AWp.mask [false, false, true, true, false, true] rfl ?_
  simp only [go_sem]
  refine AWp.iceP 5 [[.slc 1 (byteRows d), .int .i64 sy]] rfl rfl (Nat.zero_lt_succ _) (by decide) (by simp) ?_
  simp only [go_sem]
  refine AWp.iceP 3 [[.int .i64 u, .slc 6 (entsD l)]] rfl rfl (Nat.zero_lt_succ _) (by decide) (by simp) ?_
  simp only [go_sem]
  · skip
    refine AWp.dsF true [] [0, 1] [2, 3, 4, 5, 6, 7, 8, 9] rfl (by kernel_rfl) fun K3 hK3 => ?_
    try simp only [go_sem, decide_true, Bool.true_and, fb2, fb3, fb5]
    try with_reducible refine Exists.intro _ (And.intro (fun _ => (by first | rfl | (simp only [go_sem, decide_true, Bool.true_and, fb2, fb3, fb5]; first | done | rfl | exact ⟨by omega, rfl⟩))) ?_)
    try with_reducible refine Exists.intro _ (And.intro (fun _ => (by first | rfl | (simp only [go_sem, decide_true, Bool.true_and, fb2, fb3, fb5]; first | done | rfl | exact ⟨by omega, rfl⟩))) ?_)
    refine DW.pcr rfl rfl rfl rfl (batch_c T u l hz) rfl rfl ?_
    try simp only [go_sem, decide_true, Bool.true_and, fb2, fb3, fb5]
    refine DW.pcr rfl rfl rfl rfl (Append_c T hL d sy u l oke) rfl rfl ?_
    try simp only [go_sem, decide_true, Bool.true_and, fb2, fb3, fb5]
    intro b4
    first | intro fb4 | have fb4 := True.intro
    try simp only [freshL] at fb4
    refine hK3 _ _ ?_
    try clear hK3 K3
    refine AWp.mask [true, true, true, true, true] rfl ?_
    simp only [go_sem]
    refine AWp.rs fun K5 hK5 => ?_
    try simp only [go_sem, decide_true, Bool.true_and, fb2, fb3, fb5, fb4]
    refine DW.pcr rfl rfl rfl rfl (TapeAppended_c T hL d sy u l oke) rfl rfl ?_
    try simp only [go_sem, decide_true, Bool.true_and, fb2, fb3, fb5, fb4]
    intro b6
    first | intro fb6 | have fb6 := True.intro
    try simp only [freshL] at fb6
    refine hK5 _ _ ?_
    try clear hK5 K5
    refine AWp.mask [true, false, true, true, true, true, true] rfl ?_
    simp only [go_sem]
    refine AWp.rs fun K7 hK7 => ?_
    try simp only [go_sem, decide_true, Bool.true_and, fb2, fb3, fb5, fb4, fb6]
    refine DW.pcgr rfl rfl rfl rfl rfl (fun hg => sameTape_c T _ _) (fun hg => by (try simp only [go_sem, decide_true, Bool.true_and, fb2, fb3, fb5, fb4, fb6]) <;> first | exact hg | (exfalso; simp at hg; done) | (simpa using hg) | grind) rfl rfl ?_
    try simp only [go_sem, decide_true, Bool.true_and, fb2, fb3, fb5, fb4, fb6]
    refine DW.pcgr rfl rfl rfl rfl rfl (fun hg => sameTape_c T _ _) (fun hg => by (try simp only [go_sem, decide_true, Bool.true_and, fb2, fb3, fb5, fb4, fb6]) <;> first | exact hg | (exfalso; simp at hg; done) | (simpa using hg) | grind) rfl rfl ?_
    try simp only [go_sem, decide_true, Bool.true_and, fb2, fb3, fb5, fb4, fb6]
    refine hK7 _ _ ?_
    try clear hK7 K7
    refine AWp.mask [false, true] rfl ?_
    simp only [go_sem]
    refine AWp.ret ?_
    try simp only [go_sem, decide_true, Bool.true_and, fb2, fb3, fb5, fb4, fb6]
    try simp [LeA, LeL, LeD]
end Go.Proofs.YthhfbolhlbgbgaaDoor

namespace Go.Proofs.YthhfbolhlbgbgaaDoor
set_option linter.unusedSimpArgs false
set_option linter.unusedVariables false
/-- a batch that is whole -/
def decB (D : Tx) : Option (Nat × List Ent) := if 100000 < D.length then none else match decL D with
  | some (u, l, r) => if r.length = 0 ∧ batE u l = 0 then some (u, l) else none
  | none => none
theorem decV_some {D : Tx} {u : Nat} {l : List Ent} (h : decB D = some (u, l)) : decV D = .tup [.agg [.d (.int .i64 u), .d (.slc 6 (entsD l))], .d (.int .i64 0)] := by
  unfold decB at h
  split at h
  · cases h
  · rename_i hl
    split at h
    · rename_i u' l' r hd
      split at h
      · rename_i hc
        injection h with h
        injection h with h1 h2
        subst h1 h2
        exact decV_0 (by omega) hd hc.1 hc.2
      · cases h
    · cases h
theorem decV_none {D : Tx} (h : decB D = none) : ∃ e : Int, e ≠ 0 ∧ decV D = .tup [zeroV, .d (.int .i64 e)] := by
  unfold decB at h
  split at h
  · rename_i hl
    exact ⟨1, by decide, decV_1 hl⟩
  · rename_i hl
    split at h
    · rename_i u' l' r hd
      split at h
      · cases h
      · rename_i hc
        by_cases hr : r.length = 0
        · have he : ¬ batE u' l' = 0 := fun he => hc ⟨hr, he⟩
          exact ⟨_, he, decV_e (by omega) hd hr he⟩
        · exact ⟨3, by decide, decV_3 (by omega) hd (by omega)⟩
    · rename_i hd
      exact ⟨4, by decide, decV_4 (by omega) hd⟩
theorem decB_ents {D : Tx} {u : Nat} {l : List Ent} (h : decB D = some (u, l)) : l.length ≤ 10 ∧ (u : Int) ≤ 2 := by
  unfold decB at h
  split at h
  · cases h
  · split at h
    · split at h
      · rename_i hc
        injection h with h
        injection h with h1 h2
        subst h1 h2
        obtain ⟨_, h2, _, h4, _⟩ := batE_0 hc.2
        exact ⟨h4, h2⟩
      · cases h
    · cases h
/-- a batch behind its length, and how many bytes they take -/
def frameB (r : Tx) : Option ((Nat × List Ent) × Nat) :=
  if r.length < 3 then none
  else if (r.drop 3).length < numT (r.take 3) then none
  else match decB ((r.drop 3).take (numT (r.take 3))) with
    | none => none
    | some p => some (p, 3 + numT (r.take 3))
theorem frame_1 {r : Tx} (h : r.length < 3) : frameB r = none := if_pos h
theorem frame_2 {r : Tx} (h : 3 ≤ r.length) (h2 : (r.drop 3).length < numT (r.take 3)) : frameB r = none := by rw [frameB, if_neg (by omega), if_pos h2]
theorem frame_3 {r : Tx} (h : 3 ≤ r.length) (h2 : numT (r.take 3) ≤ (r.drop 3).length) (h3 : decB ((r.drop 3).take (numT (r.take 3))) = none) : frameB r = none := by rw [frameB, if_neg (by omega), if_neg (by omega), h3]
theorem frame_4 {r : Tx} {p : Nat × List Ent} (h : 3 ≤ r.length) (h2 : numT (r.take 3) ≤ (r.drop 3).length) (h3 : decB ((r.drop 3).take (numT (r.take 3))) = some p) : frameB r = some (p, 3 + numT (r.take 3)) := by rw [frameB, if_neg (by omega), if_neg (by omega), h3]
/-- batches that are whole, and how many bytes they take -/
def recL : Nat → Tx → List (Nat × List Ent) × Nat
  | 0, _ => ([], 0)
  | n + 1, r => match frameB r with
    | none => ([], 0)
    | some (p, k) => (p :: (recL n (r.drop k)).1, k + (recL n (r.drop k)).2)
theorem rec_stop {d : Tx} {m i : Nat} {acc : List (Nat × List Ent)} {x : List (Nat × List Ent) × Nat} (hi : x = (acc ++ (recL (m + 1) (d.drop i)).1, i + (recL (m + 1) (d.drop i)).2)) (h : frameB (d.drop i) = none) : x = (acc, i) := by
  rw [hi, recL, h]; simp
theorem rec_step {d : Tx} {m i k : Nat} {p : Nat × List Ent} {acc : List (Nat × List Ent)} {x : List (Nat × List Ent) × Nat} (hi : x = (acc ++ (recL (m + 1) (d.drop i)).1, i + (recL (m + 1) (d.drop i)).2)) (h : frameB (d.drop i) = some (p, k)) : x = ((acc ++ [p]) ++ (recL m (d.drop (i + k))).1, i + k + (recL m (d.drop (i + k))).2) := by
  rw [hi, recL, h]; simp only [List.drop_drop]; simp [Nat.add_assoc]
/-- what Recover answers -/
def recR (d : Tx) : List (Nat × List Ent) × Nat := recL (d.length + 1) d
def recN (sy : Int) (n : Nat) : Int := if (n : Int) < sy then n else sy
def recV (d : Tx) (sy : Int) : List (Nat × List Ent) × Tx × Int × Int := if 100000 < d.length ∨ sy < 0 ∨ (d.length : Int) < sy then ([], [], 0, 11) else ((recR d).1, d.take (recR d).2, recN sy (recR d).2, 0)
theorem rec_1 {d : Tx} {sy : Int} (h : ¬ TapeOk d sy) : recV d sy = ([], [], 0, 11) := if_pos (tape_no h)
theorem rec_2 {d : Tx} {sy : Int} {acc : List (Nat × List Ent)} {i : Nat} (h : TapeOk d sy) (h2 : recL (d.length + 1) d = (acc, i)) : recV d sy = (acc, d.take i, recN sy i, 0) := by rw [recV, if_neg (tape_yes h), recR, h2]
def batD (p : Nat × List Ent) : List D := [.int .i64 p.1, .slc 6 (entsD p.2)]
def batsD (l : List (Nat × List Ent)) : List (List D) := l.map batD
@[go_sem] theorem batsD_len (l : List (Nat × List Ent)) : (batsD l).length = l.length := by simp [batsD]
theorem batsD_app (l : List (Nat × List Ent)) (u : Nat) (x : List Ent) : batsD l ++ [[.int .i64 u, .slc 6 (entsD x)]] = batsD (l ++ [(u, x)]) := by simp [batsD, batD]
theorem batsD_get {l : List (Nat × List Ent)} {i : Nat} {d : List D} (h : i < l.length) : (batsD l).getD i d = [.int .i64 ((l[i]'h).1 : Nat), .slc 6 (entsD (l[i]'h).2)] := by simp [batsD, List.getD, h, batD]
theorem Decode_some (T : Tbl) (hL : LibT T) (D : Tx) (u : Nat) (l : List Ent) (h : decB D = some (u, l)) : PC Tryd.prog T 49 [.d (.slc 1 (byteRows (D)))] (.tup [.agg [.d (.int .i64 (u : Nat)), .d (.slc 6 (entsD l))], .d (.int .i64 0)]) := by
  have := Decode_c T hL D
  rwa [decV_some h] at this
theorem BatchOf_some (T : Tbl) (hL : LibT T) (D : Tx) (u : Nat) (l : List Ent) (h : decB D = some (u, l)) : PC Tryd.prog T 50 [.d (.slc 1 (byteRows (D)))] (.tup [.agg [.d (.int .i64 (u : Nat)), .d (.slc 6 (entsD l))], .d (.int .i64 0)]) := by
  have := BatchOf_c T hL D
  rwa [decV_some h] at this
theorem Decode_none (T : Tbl) (hL : LibT T) (D : Tx) (e : Int) (h : decV D = .tup [zeroV, .d (.int .i64 e)]) : PC Tryd.prog T 49 [.d (.slc 1 (byteRows (D)))] (.tup [zeroV, .d (.int .i64 e)]) := by
  have := Decode_c T hL D
  rwa [h] at this
theorem BatchOf_none (T : Tbl) (hL : LibT T) (D : Tx) (e : Int) (h : decV D = .tup [zeroV, .d (.int .i64 e)]) : PC Tryd.prog T 50 [.d (.slc 1 (byteRows (D)))] (.tup [zeroV, .d (.int .i64 e)]) := by
  have := BatchOf_c T hL D
  rwa [h] at this
set_option maxRecDepth 4000 in
set_option maxHeartbeats 1000000 in
theorem take_w (T : Tbl) (b n : Nat) (d : Tx) (bad : Bool) (F : List (Nat × Ob)) (L : List Nat) (hd : d.length ≤ 100000) (hn : n ≤ 100000000) : AC Tryd.prog T 64 [.ptr b 2 0 0, .d (.int .i64 n)] (⟨bob b d bad :: F, L⟩) (fun x h => x = .ret (.d (.slc 1 (byteRows (takeT d bad n)))) ∧ h = ⟨bob b (takeD d bad n) (takeB d bad n) :: F, L⟩) := by
  refine ⟨Tryd.call64, ACalls.enterS Tryd.func64 rfl Tryd.ntmps64 rfl fun hb => ?_⟩
  simp only [go_sem, Tryd.results64]
  refine AWp.rs fun K1 hK1 => ?_
  try simp only [go_sem, bob, byteRows_take, byteRows_drop, icast, toNat_nat, byteRows_len]
  refine hK1 _ _ ?_
  try clear hK1 K1
  refine AWp.seq fun K2 hK2 => ?_
  rcases (show bad = false ∨ bad = true by cases bad <;> simp) with rfl | rfl
  · skip
    refine AWp.rs fun K3 hK3 => ?_
    try simp only [go_sem, bob, byteRows_take, byteRows_drop, icast, toNat_nat, byteRows_len]
    refine hK3 _ _ ?_
    try clear hK3 K3
    refine AWp.mask [true, true, false, false, false, false, false, false, false, false, false, false, false, false, false, true] rfl ?_
    simp only [go_sem]
    refine AWp.cond _ rfl (fun hc0 => ?_) (fun hc0 => ?_)
    · skip
      try simp only [decide_eq_true_eq, decide_eq_false_iff_not, Bool.not_eq_true', Bool.not_eq_false', Bool.and_eq_true, Bool.or_eq_true, Bool.and_eq_false_iff, Bool.or_eq_false_iff, Int.not_lt, Int.not_le, beq_iff_eq, beq_eq_false_iff_ne, ne_eq, Bool.not_eq_true, Bool.not_eq_false] at hc0
      refine AWp.rs fun K4 hK4 => ?_
      try simp only [go_sem, bob, byteRows_take, byteRows_drop, icast, toNat_nat, byteRows_len]
      refine hK4 _ _ ?_
      try clear hK4 K4
      refine AWp.mask [] rfl ?_
      simp only [go_sem]
      refine AWp.rs fun K5 hK5 => ?_
      try simp only [go_sem, bob, byteRows_take, byteRows_drop, icast, toNat_nat, byteRows_len]
      refine hK5 _ _ ?_
      try clear hK5 K5
      refine AWp.ret ?_
      try simp only [thenQ, blkQ]
      apply endW_r [] [] [b] [] (by (try simp only [go_sem, bob, byteRows_take, byteRows_drop, icast, toNat_nat, byteRows_len]); rfl)
      · obtain ⟨e1, e2, e3⟩ := take_no (d := d) (n := n) (bad := false) (by first | exact .inl rfl | exact .inr (by omega))
        rw [e1, e2, e3]
        refine ⟨rfl, ?_⟩
        simp [go_sem, bob]
      · simp [LeA, LeL, LeD, byteRows]
    · skip
      try simp only [decide_eq_true_eq, decide_eq_false_iff_not, Bool.not_eq_true', Bool.not_eq_false', Bool.and_eq_true, Bool.or_eq_true, Bool.and_eq_false_iff, Bool.or_eq_false_iff, Int.not_lt, Int.not_le, beq_iff_eq, beq_eq_false_iff_ne, ne_eq, Bool.not_eq_true, Bool.not_eq_false] at hc0
      refine AWp.skip ?_
      refine thenQ_n ?_
      refine hK2 _ _ ?_
      try clear hK2 K2
      refine AWp.rs fun K6 hK6 => ?_
      try simp only [go_sem, bob, byteRows_take, byteRows_drop, icast, toNat_nat, byteRows_len]
      (repeat (with_reducible refine And.intro ?_ ?_; omega))
      refine hK6 _ _ ?_
      try clear hK6 K6
      refine AWp.mask [true, true, true] rfl ?_
      simp only [go_sem]
      refine AWp.rs fun K7 hK7 => ?_
      try simp only [go_sem, bob, byteRows_take, byteRows_drop, icast, toNat_nat, byteRows_len]
      (repeat (with_reducible refine And.intro ?_ ?_; omega))
      refine hK7 _ _ ?_
      try clear hK7 K7
      refine AWp.mask [false, false, true] rfl ?_
      simp only [go_sem]
      refine AWp.rs fun K8 hK8 => ?_
      try simp only [go_sem, bob, byteRows_take, byteRows_drop, icast, toNat_nat, byteRows_len]
      refine hK8 _ _ ?_
      try clear hK8 K8
      refine AWp.ret ?_
      apply endW_r [] [] [b] [] (by (try simp only [go_sem, bob, byteRows_take, byteRows_drop, icast, toNat_nat, byteRows_len]); rfl)
      · obtain ⟨e1, e2, e3⟩ := take_yes (d := d) (n := n) (by omega)
        rw [e1, e2, e3]
        refine ⟨rfl, ?_⟩
        simp [go_sem, bob]
      · simp [LeA, LeL, LeD]
  · skip
    refine AWp.rs fun K3 hK3 => ?_
    try simp only [go_sem, bob, byteRows_take, byteRows_drop, icast, toNat_nat, byteRows_len]
    (repeat (with_reducible refine And.intro ?_ ?_; decide))
    refine hK3 _ _ ?_
    try clear hK3 K3
    refine AWp.mask [true, true, false, false, false, false, false, false, false, false, false, false, false, false, false, true] rfl ?_
    simp only [go_sem]
    refine AWp.cond _ rfl (fun hc0 => ?_) (fun hc0 => ?_)
    · skip
      try simp only [decide_eq_true_eq, decide_eq_false_iff_not, Bool.not_eq_true', Bool.not_eq_false', Bool.and_eq_true, Bool.or_eq_true, Bool.and_eq_false_iff, Bool.or_eq_false_iff, Int.not_lt, Int.not_le, beq_iff_eq, beq_eq_false_iff_ne, ne_eq, Bool.not_eq_true, Bool.not_eq_false] at hc0
      refine AWp.rs fun K9 hK9 => ?_
      try simp only [go_sem, bob, byteRows_take, byteRows_drop, icast, toNat_nat, byteRows_len]
      refine hK9 _ _ ?_
      try clear hK9 K9
      refine AWp.mask [] rfl ?_
      simp only [go_sem]
      refine AWp.rs fun K10 hK10 => ?_
      try simp only [go_sem, bob, byteRows_take, byteRows_drop, icast, toNat_nat, byteRows_len]
      refine hK10 _ _ ?_
      try clear hK10 K10
      refine AWp.ret ?_
      try simp only [thenQ, blkQ]
      apply endW_r [] [] [b] [] (by (try simp only [go_sem, bob, byteRows_take, byteRows_drop, icast, toNat_nat, byteRows_len]); rfl)
      · obtain ⟨e1, e2, e3⟩ := take_no (d := d) (n := n) (bad := true) (by first | exact .inl rfl | exact .inr (by omega))
        rw [e1, e2, e3]
        refine ⟨rfl, ?_⟩
        simp [go_sem, bob]
      · simp [LeA, LeL, LeD, byteRows]
    · skip
      exact absurd hc0 (by simp)
set_option maxRecDepth 4000 in
set_option maxHeartbeats 1000000 in
theorem Recover_c (T : Tbl) (hL : LibT T) (d : Tx) (sy : Int) : PC Tryd.prog T 24 [.agg [.d (.slc 1 (byteRows (d))), .d (.int .i64 sy)]] (.tup [.d (.slc 2 (batsD (recV d sy).1)), .agg [.d (.slc 1 (byteRows ((recV d sy).2.1))), .d (.int .i64 ((recV d sy).2.2.1))], .d (.int .i64 ((recV d sy).2.2.2))]) := by
  refine ⟨Tryd.call24, PCall.enterS Tryd.func24 rfl Tryd.ntmps24 rfl fun hb => ?_⟩
  simp only [go_sem, Tryd.results24]
  refine AWp.rs fun K1 hK1 => ?_
  try simp only [go_sem, icast, byteRows_len, byteRows_drop, byteRows_take, toNat_nat, List.take_length, bob, zeroV]
  intro b1
  first | intro fb1 | have fb1 := True.intro
  try simp only [freshL, bob] at fb1
  intro b3
  first | intro fb3 | have fb3 := True.intro
  try simp only [freshL, bob] at fb3
  refine hK1 _ _ ?_
  try clear hK1 K1
  by_cases ok : TapeOk d sy
  · skip
    refine AWp.rs fun K2 hK2 => ?_
    try simp only [go_sem, icast, byteRows_len, byteRows_drop, byteRows_take, toNat_nat, List.take_length, bob, zeroV, fb1, fb3]
    refine DW.acp [] [] rfl rfl rfl rfl (by (try simp only [go_sem, icast, byteRows_len, byteRows_drop, byteRows_take, toNat_nat, List.take_length, bob, zeroV, fb1, fb3]); rfl) rfl (open_ok T d sy _ _ ok) ?_
    rintro _ _ ⟨W3, fW3, rfl, rfl⟩
    try simp only [freshT, freshL, bob] at fW3
    try simp only [go_sem, icast, byteRows_len, byteRows_drop, byteRows_take, toNat_nat, List.take_length, bob, zeroV, fb1, fb3, fW3]
    intro b5
    first | intro fb5 | have fb5 := True.intro
    try simp only [freshL, bob] at fb5
    refine hK2 _ _ ?_
    try clear hK2 K2
    refine AWp.mask [false, false, false, true, false, true, true] rfl ?_
    simp only [go_sem]
    refine AWp.seq fun K4 hK4 => ?_
    refine AWp.rs fun K5 hK5 => ?_
    try simp only [go_sem, icast, byteRows_len, byteRows_drop, byteRows_take, toNat_nat, List.take_length, bob, zeroV, fb1, fb3, fW3, fb5]
    refine hK5 _ _ ?_
    try clear hK5 K5
    refine AWp.cond _ rfl (fun hc0 => ?_) (fun hc0 => ?_)
    · skip
      exact absurd hc0 (by simp)
    · skip
      try simp only [decide_eq_true_eq, decide_eq_false_iff_not, Bool.not_eq_true', Bool.not_eq_false', Bool.and_eq_true, Bool.or_eq_true, Bool.and_eq_false_iff, Bool.or_eq_false_iff, Int.not_lt, Int.not_le, beq_iff_eq, beq_eq_false_iff_ne, ne_eq, Bool.not_eq_true, Bool.not_eq_false] at hc0
      obtain ⟨ok1, ok2, ok3⟩ := id ok
      refine AWp.skip ?_
      refine thenQ_n ?_
      refine hK4 _ _ ?_
      try clear hK4 K4
      refine AWp.rs fun K6 hK6 => ?_
      try simp only [go_sem, icast, byteRows_len, byteRows_drop, byteRows_take, toNat_nat, List.take_length, bob, zeroV, fb1, fb3, fW3, fb5]
      refine hK6 _ _ ?_
      try clear hK6 K6
      refine AWp.rs fun K7 hK7 => ?_
      try simp only [go_sem, icast, byteRows_len, byteRows_drop, byteRows_take, toNat_nat, List.take_length, bob, zeroV, fb1, fb3, fW3, fb5]
      refine hK7 _ _ ?_
      try clear hK7 K7
      refine AWp.seq fun K8 hK8 => ?_
      refine AWp.block ?_
      refine AWp.mask [true, true, false, true, true] rfl ?_
      simp only [go_sem]
      refine AWp.ownNilS 7 2 rfl rfl (by decide) fun t9 ft9 => ?_
      try simp only [freshT] at ft9
      simp only [go_sem]
      refine AWp.loopS [true, true] [false, false, true, true] (fun n lc hc => ∃ (m i w : Nat) (acc : List (Nat × List Ent)), n = d.length - i ∧ EqS lc [(7, .own w 2 (batsD acc)), (8, .d (.int .i64 (i : Nat)))] ∧ EqS hc (⟨[(b5, ⟨2, 1, [[.own W3 1 (byteRows d), .d (.int .i64 sy)]]⟩), (b3, ⟨2, 1, [[.nils, .d (.int .i64 0)]]⟩), (b1, ⟨2, 1, [[.d (.slc 1 (byteRows (d))), .d (.int .i64 sy)]]⟩)], [w, W3]⟩) ∧ (i ≤ d.length) ∧ (recL (d.length + 1) d = (acc ++ (recL (m + 1) (d.drop i)).1, i + (recL (m + 1) (d.drop i)).2)) ∧ (d.length - i ≤ m) ∧ (acc.length ≤ i)) rfl ?_ ?_
      · refine ⟨_, d.length, 0, t9, [], rfl, ?_, ?_, ?_, ?_, ?_, ?_⟩
        · (try simp only [go_sem, icast, byteRows_len, byteRows_drop, byteRows_take, toNat_nat, List.take_length, bob, zeroV, fb1, fb3, fW3, fb5, ft9]) <;> first | exact ⟨rfl⟩ | (constructor; simp [batsD]; done)
        · (try simp only [go_sem, icast, byteRows_len, byteRows_drop, byteRows_take, toNat_nat, List.take_length, bob, zeroV, fb1, fb3, fW3, fb5, ft9]) <;> first | exact ⟨rfl⟩ | (constructor; simp; done)
        all_goals (first | omega | (simp; done))
      · rintro _ _ _ ⟨m, i, w, acc, rfl, ⟨rfl⟩, ⟨rfl⟩, h1, h2, h3, h4⟩
        simp only [go_sem]
        refine AWp.block ?_
        refine AWp.rs fun K9 hK9 => ?_
        try simp only [go_sem, icast, byteRows_len, byteRows_drop, byteRows_take, toNat_nat, List.take_length, bob, zeroV, fb1, fb3, fW3, fb5, ft9]
        (repeat (with_reducible refine And.intro ?_ ?_; omega))
        intro b9
        first | intro fb9 | have fb9 := True.intro
        try simp only [freshL, bob] at fb9
        refine hK9 _ _ ?_
        try clear hK9 K9
        refine AWp.mask [true, true, true, true, true] rfl ?_
        simp only [go_sem]
        refine AWp.rs fun K10 hK10 => ?_
        try simp only [go_sem, icast, byteRows_len, byteRows_drop, byteRows_take, toNat_nat, List.take_length, bob, zeroV, fb1, fb3, fW3, fb5, ft9, fb9]
        refine DW.acp [b9] [] rfl rfl rfl rfl (by (try simp only [go_sem, icast, byteRows_len, byteRows_drop, byteRows_take, toNat_nat, List.take_length, bob, zeroV, fb1, fb3, fW3, fb5, ft9, fb9]); rfl) rfl (number_r T b9 3 (d.drop i) false _ _ (by rw [List.length_drop]; omega) (by omega)) ?_
        rintro _ _ ⟨U11, D12, B13, qU11, rfl, rfl⟩
        have lD12 := qU11.len
        rw [List.length_drop] at lD12
        have sU11 := qU11.small (by omega)
        try simp only [go_sem, icast, byteRows_len, byteRows_drop, byteRows_take, toNat_nat, List.take_length, bob, zeroV, fb1, fb3, fW3, fb5, ft9, fb9]
        refine DW.acp [b9] [] rfl rfl rfl rfl (by (try simp only [go_sem, icast, byteRows_len, byteRows_drop, byteRows_take, toNat_nat, List.take_length, bob, zeroV, fb1, fb3, fW3, fb5, ft9, fb9]); rfl) rfl (take_w T b9 U11 D12 B13 _ _ (by omega) (by omega)) ?_
        rintro _ _ ⟨rfl, rfl⟩
        try simp only [go_sem, icast, byteRows_len, byteRows_drop, byteRows_take, toNat_nat, List.take_length, bob, zeroV, fb1, fb3, fW3, fb5, ft9, fb9]
        refine hK10 _ _ ?_
        try clear hK10 K10
        refine AWp.mask [true, true, true, true, true, true] rfl ?_
        simp only [go_sem]
        refine AWp.seq fun K14 hK14 => ?_
        rcases qU11.cases with ⟨hB, hsh⟩ | ⟨hB, hl3, hv, hD⟩
        rotate_left
        rcases Nat.lt_or_ge (D12).length U11 with hs | hs
        rotate_right
        · skip
          subst hB
          have hfr := frame_1 hsh
          refine AWp.rs fun K15 hK15 => ?_
          try simp only [go_sem, icast, byteRows_len, byteRows_drop, byteRows_take, toNat_nat, List.take_length, bob, zeroV, fb1, fb3, fW3, fb5, ft9, fb9, takeB_true]
          refine hK15 _ _ ?_
          try clear hK15 K15
          refine AWp.mask [true, true, true, true, false, true, false, false, false, true] rfl ?_
          simp only [go_sem]
          refine AWp.cond _ rfl (fun hc1 => ?_) (fun hc1 => ?_)
          · skip
            try simp only [decide_eq_true_eq, decide_eq_false_iff_not, Bool.not_eq_true', Bool.not_eq_false', Bool.and_eq_true, Bool.or_eq_true, Bool.and_eq_false_iff, Bool.or_eq_false_iff, Int.not_lt, Int.not_le, beq_iff_eq, beq_eq_false_iff_ne, ne_eq, Bool.not_eq_true, Bool.not_eq_false] at hc1
            refine AWp.exit ?_
            refine thenQ_e (blkQ_d (by decide) (thenQ_e (blkQ_e (thenQ_n ?_))))
            refine hK8 _ _ ?_
            try clear hK8 K8
            refine AWp.ds true [0, 1, 2, 3, 4, 5, 6, 7, 8, 9, 10, 11, 12, 13] rfl (by kernel_rfl) fun K16 hK16 => ?_
            try simp only [go_sem, icast, byteRows_len, byteRows_drop, byteRows_take, toNat_nat, List.take_length, bob, zeroV, fb1, fb3, fW3, fb5, ft9, fb9, takeB_true]
            (repeat (with_reducible refine And.intro ?_ ?_; omega))
            refine hK16 _ _ ?_
            try clear hK16 K16
            refine AWp.mask [true, true, true] rfl ?_
            simp only [go_sem]
            refine AWp.ret ?_
            try simp only [go_sem, icast, byteRows_len, byteRows_drop, byteRows_take, toNat_nat, List.take_length, bob, zeroV, fb1, fb3, fW3, fb5, ft9, fb9, takeB_true]
            rw [rec_2 ok (rec_stop h2 hfr)]; simp [LeA, LeL, LeD, recN]
          · skip
            exact absurd hc1 (by simp)
        · skip
          subst hB hv hD
          obtain ⟨e1, e2, e3⟩ := take_no (bad := false) (.inr hs)
          rw [e1, e2, e3] at *
          have hfr := frame_2 hl3 hs
          refine AWp.rs fun K15 hK15 => ?_
          try simp only [go_sem, icast, byteRows_len, byteRows_drop, byteRows_take, toNat_nat, List.take_length, bob, zeroV, fb1, fb3, fW3, fb5, ft9, fb9]
          refine hK15 _ _ ?_
          try clear hK15 K15
          refine AWp.mask [true, true, true, true, false, true, false, false, false, true] rfl ?_
          simp only [go_sem]
          refine AWp.cond _ rfl (fun hc1 => ?_) (fun hc1 => ?_)
          · skip
            try simp only [decide_eq_true_eq, decide_eq_false_iff_not, Bool.not_eq_true', Bool.not_eq_false', Bool.and_eq_true, Bool.or_eq_true, Bool.and_eq_false_iff, Bool.or_eq_false_iff, Int.not_lt, Int.not_le, beq_iff_eq, beq_eq_false_iff_ne, ne_eq, Bool.not_eq_true, Bool.not_eq_false] at hc1
            refine AWp.exit ?_
            refine thenQ_e (blkQ_d (by decide) (thenQ_e (blkQ_e (thenQ_n ?_))))
            refine hK8 _ _ ?_
            try clear hK8 K8
            refine AWp.ds true [0, 1, 2, 3, 4, 5, 6, 7, 8, 9, 10, 11, 12, 13] rfl (by kernel_rfl) fun K17 hK17 => ?_
            try simp only [go_sem, icast, byteRows_len, byteRows_drop, byteRows_take, toNat_nat, List.take_length, bob, zeroV, fb1, fb3, fW3, fb5, ft9, fb9]
            (repeat (with_reducible refine And.intro ?_ ?_; omega))
            refine hK17 _ _ ?_
            try clear hK17 K17
            refine AWp.mask [true, true, true] rfl ?_
            simp only [go_sem]
            refine AWp.ret ?_
            try simp only [go_sem, icast, byteRows_len, byteRows_drop, byteRows_take, toNat_nat, List.take_length, bob, zeroV, fb1, fb3, fW3, fb5, ft9, fb9]
            rw [rec_2 ok (rec_stop h2 hfr)]; simp [LeA, LeL, LeD, recN]
          · skip
            exact absurd hc1 (by simp)
        · skip
          subst hB hv hD
          obtain ⟨e1, e2, e3⟩ := take_yes hs
          rw [e1, e2, e3] at *
          have hfl := hs
          simp only [List.length_drop] at hfl
          rw [List.length_drop] at hl3
          refine AWp.rs fun K15 hK15 => ?_
          try simp only [go_sem, icast, byteRows_len, byteRows_drop, byteRows_take, toNat_nat, List.take_length, bob, zeroV, fb1, fb3, fW3, fb5, ft9, fb9]
          refine hK15 _ _ ?_
          try clear hK15 K15
          refine AWp.mask [true, true, true, true, false, true, false, false, false, true] rfl ?_
          simp only [go_sem]
          refine AWp.cond _ rfl (fun hc1 => ?_) (fun hc1 => ?_)
          · skip
            exact absurd hc1 (by simp)
          · skip
            try simp only [decide_eq_true_eq, decide_eq_false_iff_not, Bool.not_eq_true', Bool.not_eq_false', Bool.and_eq_true, Bool.or_eq_true, Bool.and_eq_false_iff, Bool.or_eq_false_iff, Int.not_lt, Int.not_le, beq_iff_eq, beq_eq_false_iff_ne, ne_eq, Bool.not_eq_true, Bool.not_eq_false] at hc1
            refine AWp.skip ?_
            refine thenQ_n ?_
            refine hK14 _ _ ?_
            try clear hK14 K14
            rcases hq : decB (((d.drop i).drop 3).take (numT ((d.drop i).take 3))) with _ | ⟨u, l⟩
            · skip
              obtain ⟨e, he, hV⟩ := decV_none hq
              have hfr := frame_3 (by rw [List.length_drop]; omega) hs hq
              refine AWp.rs fun K18 hK18 => ?_
              try simp only [go_sem, icast, byteRows_len, byteRows_drop, byteRows_take, toNat_nat, List.take_length, bob, zeroV, fb1, fb3, fW3, fb5, ft9, fb9]
              refine DW.pcr rfl rfl rfl rfl (Decode_none T hL _ e hV) rfl rfl ?_
              try simp only [go_sem, icast, byteRows_len, byteRows_drop, byteRows_take, toNat_nat, List.take_length, bob, zeroV, fb1, fb3, fW3, fb5, ft9, fb9]
              intro b11
              first | intro fb11 | have fb11 := True.intro
              try simp only [freshL, bob] at fb11
              refine hK18 _ _ ?_
              try clear hK18 K18
              refine AWp.mask [true, true, true, true, true, true, true] rfl ?_
              simp only [go_sem]
              refine AWp.seq fun K19 hK19 => ?_
              refine AWp.rs fun K20 hK20 => ?_
              try simp only [go_sem, icast, byteRows_len, byteRows_drop, byteRows_take, toNat_nat, List.take_length, bob, zeroV, fb1, fb3, fW3, fb5, ft9, fb9, fb11]
              refine hK20 _ _ ?_
              try clear hK20 K20
              refine AWp.cond _ rfl (fun hc2 => ?_) (fun hc2 => ?_)
              · skip
                try simp only [decide_eq_true_eq, decide_eq_false_iff_not, Bool.not_eq_true', Bool.not_eq_false', Bool.and_eq_true, Bool.or_eq_true, Bool.and_eq_false_iff, Bool.or_eq_false_iff, Int.not_lt, Int.not_le, beq_iff_eq, beq_eq_false_iff_ne, ne_eq, Bool.not_eq_true, Bool.not_eq_false] at hc2
                refine AWp.exit ?_
                refine thenQ_e (blkQ_d (by decide) (thenQ_e (blkQ_e (thenQ_n ?_))))
                refine hK8 _ _ ?_
                try clear hK8 K8
                refine AWp.mask [true, true, true, true] rfl ?_
                simp only [go_sem]
                refine AWp.ds true [0, 1, 2, 3, 4, 5, 6, 7, 8, 9, 10, 11, 12, 13] rfl (by kernel_rfl) fun K21 hK21 => ?_
                try simp only [go_sem, icast, byteRows_len, byteRows_drop, byteRows_take, toNat_nat, List.take_length, bob, zeroV, fb1, fb3, fW3, fb5, ft9, fb9, fb11]
                (repeat (with_reducible refine And.intro ?_ ?_; omega))
                refine hK21 _ _ ?_
                try clear hK21 K21
                refine AWp.mask [true, true, true] rfl ?_
                simp only [go_sem]
                refine AWp.ret ?_
                try simp only [go_sem, icast, byteRows_len, byteRows_drop, byteRows_take, toNat_nat, List.take_length, bob, zeroV, fb1, fb3, fW3, fb5, ft9, fb9, fb11]
                rw [rec_2 ok (rec_stop h2 hfr)]; simp [LeA, LeL, LeD, recN]
              · skip
                exfalso
                simp [he] at hc2
            · skip
              have hfr := frame_4 (by rw [List.length_drop]; omega) hs hq
              have hfn : numT ((d.drop i).take 3) ≤ d.length := by omega
              have hft : ((((d.drop i).drop 3).take (numT ((d.drop i).take 3)))).length = numT ((d.drop i).take 3) := by rw [List.length_take, List.length_drop, List.length_drop]; omega
              refine AWp.rs fun K18 hK18 => ?_
              try simp only [go_sem, icast, byteRows_len, byteRows_drop, byteRows_take, toNat_nat, List.take_length, bob, zeroV, fb1, fb3, fW3, fb5, ft9, fb9, hft]
              refine DW.pcr rfl rfl rfl rfl (Decode_some T hL _ u l hq) rfl rfl ?_
              try simp only [go_sem, icast, byteRows_len, byteRows_drop, byteRows_take, toNat_nat, List.take_length, bob, zeroV, fb1, fb3, fW3, fb5, ft9, fb9, hft]
              intro b11
              first | intro fb11 | have fb11 := True.intro
              try simp only [freshL, bob] at fb11
              refine hK18 _ _ ?_
              try clear hK18 K18
              refine AWp.mask [true, true, true, true, true, true, true] rfl ?_
              simp only [go_sem]
              refine AWp.seq fun K22 hK22 => ?_
              refine AWp.rs fun K23 hK23 => ?_
              try simp only [go_sem, icast, byteRows_len, byteRows_drop, byteRows_take, toNat_nat, List.take_length, bob, zeroV, fb1, fb3, fW3, fb5, ft9, fb9, hft, fb11]
              refine hK23 _ _ ?_
              try clear hK23 K23
              refine AWp.cond _ rfl (fun hc2 => ?_) (fun hc2 => ?_)
              · skip
                exact absurd hc2 (by simp)
              · skip
                try simp only [decide_eq_true_eq, decide_eq_false_iff_not, Bool.not_eq_true', Bool.not_eq_false', Bool.and_eq_true, Bool.or_eq_true, Bool.and_eq_false_iff, Bool.or_eq_false_iff, Int.not_lt, Int.not_le, beq_iff_eq, beq_eq_false_iff_ne, ne_eq, Bool.not_eq_true, Bool.not_eq_false] at hc2
                refine AWp.skip ?_
                refine thenQ_n ?_
                refine hK22 _ _ ?_
                try clear hK22 K22
                refine AWp.rs fun K24 hK24 => ?_
                try simp only [go_sem, icast, byteRows_len, byteRows_drop, byteRows_take, toNat_nat, List.take_length, bob, zeroV, fb1, fb3, fW3, fb5, ft9, fb9, hft, fb11]
                refine DW.app rfl rfl rfl rfl (show slI Tryd.prog 44 = some (37, 2, 32) by simp only [go_sem]) rfl rfl (by simp only [go_sem, icast, byteRows_len, byteRows_drop, byteRows_take, toNat_nat, List.take_length, bob, zeroV, fb1, fb3, fW3, fb5, ft9, fb9, hft, fb11]) (by first | exact .inl rfl | exact .inr rfl) (by (try simp only [go_sem, byteRows_len, List.length_append, List.length_cons, List.length_nil, wideR_len, txS_len]); omega) (by (try simp only [go_sem, byteRows_len, List.length_append, List.length_cons, List.length_nil, wideR_len, txS_len]); omega) fun t1 ft1 => ?_
                try simp only [freshT] at ft1
                try simp only [go_sem, icast, byteRows_len, byteRows_drop, byteRows_take, toNat_nat, List.take_length, bob, zeroV, fb1, fb3, fW3, fb5, ft9, fb9, hft, fb11, ft1]
                refine hK24 _ _ ?_
                try clear hK24 K24
                refine AWp.mask [true, true, true, true, true] rfl ?_
                simp only [go_sem]
                refine AWp.rk fun K25 hK25 => ?_
                try simp only [go_sem, icast, byteRows_len, byteRows_drop, byteRows_take, toNat_nat, List.take_length, bob, zeroV, fb1, fb3, fW3, fb5, ft9, fb9, hft, fb11, ft1]
                (repeat (with_reducible refine And.intro ?_ ?_; omega))
                refine hK25 _ _ ?_
                try clear hK25 K25
                refine blkQ_n (thenQ_n ?_)
                refine EndS.mk [true, true] [false, false, true, true] [b9, b11] [] [b5, b3, b1] [t1, W3] rfl ?_ ?_
                · (try simp only [go_sem, icast, byteRows_len, byteRows_drop, byteRows_take, toNat_nat, List.take_length, bob, zeroV, fb1, fb3, fW3, fb5, ft9, fb9, hft, fb11, ft1]) <;> try rfl
                refine .e ⟨_, ?_, (m - 1), (i + (3 + numT ((d.drop i).take 3))), t1, (acc ++ [(u, l)]), rfl, ?_, ?_, ?_, ?_, ?_, ?_⟩
                · first | omega | (simp; omega) | (grind)
                · (try simp only [go_sem, icast, byteRows_len, byteRows_drop, byteRows_take, toNat_nat, List.take_length, bob, zeroV, fb1, fb3, fW3, fb5, ft9, fb9, hft, fb11, ft1]) <;> first | exact ⟨rfl⟩ | (constructor; first | (simp [batsD, batD]; done) | (simp [batsD, batD]; omega))
                · (try simp only [go_sem, icast, byteRows_len, byteRows_drop, byteRows_take, toNat_nat, List.take_length, bob, zeroV, fb1, fb3, fW3, fb5, ft9, fb9, hft, fb11, ft1]) <;> first | exact ⟨rfl⟩ | (constructor; simp; done)
                · omega
                · rw [show m - 1 + 1 = m by omega]; exact rec_step h2 hfr
                · omega
                · simp; omega
  · skip
    have no := ok
    refine AWp.rs fun K2 hK2 => ?_
    try simp only [go_sem, icast, byteRows_len, byteRows_drop, byteRows_take, toNat_nat, List.take_length, bob, zeroV, fb1, fb3]
    refine DW.acp [] [] rfl rfl rfl rfl (by (try simp only [go_sem, icast, byteRows_len, byteRows_drop, byteRows_take, toNat_nat, List.take_length, bob, zeroV, fb1, fb3]); rfl) rfl (open_no T d sy _ _ no) ?_
    rintro _ _ ⟨rfl, rfl⟩
    try simp only [go_sem, icast, byteRows_len, byteRows_drop, byteRows_take, toNat_nat, List.take_length, bob, zeroV, fb1, fb3]
    intro b5
    first | intro fb5 | have fb5 := True.intro
    try simp only [freshL, bob] at fb5
    refine hK2 _ _ ?_
    try clear hK2 K2
    refine AWp.mask [false, false, false, true, false, true, true] rfl ?_
    simp only [go_sem]
    refine AWp.seq fun K26 hK26 => ?_
    refine AWp.rs fun K27 hK27 => ?_
    try simp only [go_sem, icast, byteRows_len, byteRows_drop, byteRows_take, toNat_nat, List.take_length, bob, zeroV, fb1, fb3, fb5]
    refine hK27 _ _ ?_
    try clear hK27 K27
    refine AWp.cond _ rfl (fun hc0 => ?_) (fun hc0 => ?_)
    · skip
      try simp only [decide_eq_true_eq, decide_eq_false_iff_not, Bool.not_eq_true', Bool.not_eq_false', Bool.and_eq_true, Bool.or_eq_true, Bool.and_eq_false_iff, Bool.or_eq_false_iff, Int.not_lt, Int.not_le, beq_iff_eq, beq_eq_false_iff_ne, ne_eq, Bool.not_eq_true, Bool.not_eq_false] at hc0
      refine AWp.rs fun K28 hK28 => ?_
      try simp only [go_sem, icast, byteRows_len, byteRows_drop, byteRows_take, toNat_nat, List.take_length, bob, zeroV, fb1, fb3, fb5]
      refine hK28 _ _ ?_
      try clear hK28 K28
      refine AWp.mask [true, true, true] rfl ?_
      simp only [go_sem]
      refine AWp.ret ?_
      try simp only [go_sem, icast, byteRows_len, byteRows_drop, byteRows_take, toNat_nat, List.take_length, bob, zeroV, fb1, fb3, fb5]
      rw [rec_1 ok]; simp [LeA, LeL, LeD, byteRows, batsD]
    · skip
      exact absurd hc0 (by simp)
end Go.Proofs.YthhfbolhlbgbgaaDoor

namespace Go.Proofs.YthhfbolhlbgbgaaDoor
set_option linter.unusedSimpArgs false
set_option linter.unusedVariables false
theorem num3_at {d : Tx} {i : Nat} (h : i + 3 ≤ d.length) : numT ((d.drop i).take 3) = (d.getD i 0).toNat * 65536 + (d.getD (i + 1) 0).toNat * 256 + (d.getD (i + 2) 0).toNat := by
  rw [drop_at (show i < d.length by omega), drop_at (show i + 1 < d.length by omega), drop_at (show i + 1 + 1 < d.length by omega)]
  exact numT3
set_option maxRecDepth 4000 in
set_option maxHeartbeats 1000000 in
theorem TapeRecovered_c (T : Tbl) (hL : LibT T) (d : Tx) (sy : Int) : PC Tryd.prog T 25 [.agg [.d (.slc 1 (byteRows (d))), .d (.int .i64 sy)]] (.tup [.d (.slc 2 (batsD (recV d sy).1)), .agg [.d (.slc 1 (byteRows ((recV d sy).2.1))), .d (.int .i64 ((recV d sy).2.2.1))], .d (.int .i64 ((recV d sy).2.2.2))]) := by
  refine ⟨Tryd.call25, PCall.enterS Tryd.func25 rfl Tryd.ntmps25 rfl fun hb => ?_⟩
  simp only [go_sem, Tryd.results25]
  refine AWp.rs fun K1 hK1 => ?_
  try simp only [go_sem, icast, byteRows_len, byteRows_drop, byteRows_take, toNat_nat, List.take_length, zeroV, tn2, tn3]
  intro b1
  first | intro fb1 | have fb1 := True.intro
  try simp only [freshL] at fb1
  intro b3
  first | intro fb3 | have fb3 := True.intro
  try simp only [freshL] at fb3
  refine hK1 _ _ ?_
  try clear hK1 K1
  refine AWp.seq fun K2 hK2 => ?_
  by_cases ok : TapeOk d sy
  · skip
    refine AWp.rs fun K3 hK3 => ?_
    try simp only [go_sem, icast, byteRows_len, byteRows_drop, byteRows_take, toNat_nat, List.take_length, zeroV, tn2, tn3, fb1, fb3]
    refine DW.pcr rfl rfl rfl rfl (TapeMay_ok T d sy ok) rfl rfl ?_
    try simp only [go_sem, icast, byteRows_len, byteRows_drop, byteRows_take, toNat_nat, List.take_length, zeroV, tn2, tn3, fb1, fb3]
    refine hK3 _ _ ?_
    try clear hK3 K3
    refine AWp.mask [false, true, false, true, false, false, false, true] rfl ?_
    simp only [go_sem]
    refine AWp.cond _ rfl (fun hc0 => ?_) (fun hc0 => ?_)
    · skip
      exact absurd hc0 (by simp)
    · skip
      try simp only [decide_eq_true_eq, decide_eq_false_iff_not, Bool.not_eq_true', Bool.not_eq_false', Bool.and_eq_true, Bool.or_eq_true, Bool.and_eq_false_iff, Bool.or_eq_false_iff, Int.not_lt, Int.not_le, beq_iff_eq, beq_eq_false_iff_ne, ne_eq, Bool.not_eq_true, Bool.not_eq_false] at hc0
      obtain ⟨ok1, ok2, ok3⟩ := id ok
      refine AWp.skip ?_
      refine thenQ_n ?_
      refine hK2 _ _ ?_
      try clear hK2 K2
      refine AWp.rs fun K4 hK4 => ?_
      try simp only [go_sem, icast, byteRows_len, byteRows_drop, byteRows_take, toNat_nat, List.take_length, zeroV, tn2, tn3, fb1, fb3]
      refine hK4 _ _ ?_
      try clear hK4 K4
      refine AWp.rs fun K5 hK5 => ?_
      try simp only [go_sem, icast, byteRows_len, byteRows_drop, byteRows_take, toNat_nat, List.take_length, zeroV, tn2, tn3, fb1, fb3]
      refine hK5 _ _ ?_
      try clear hK5 K5
      refine AWp.seq fun K6 hK6 => ?_
      refine AWp.block ?_
      refine AWp.mask [true, true, true, true] rfl ?_
      simp only [go_sem]
      refine AWp.ownNilS 5 2 rfl rfl (by decide) fun t9 ft9 => ?_
      try simp only [freshT] at ft9
      simp only [go_sem]
      refine AWp.loopS [true, true] [false, false, true, true] (fun n lc hc => ∃ (m i w : Nat) (acc : List (Nat × List Ent)), n = d.length - i ∧ EqS lc [(5, .own w 2 (batsD acc)), (6, .d (.int .i64 (i : Nat)))] ∧ EqS hc (⟨[(b3, ⟨2, 1, [[.nils, .d (.int .i64 0)]]⟩), (b1, ⟨2, 1, [[.d (.slc 1 (byteRows (d))), .d (.int .i64 sy)]]⟩)], [w]⟩) ∧ (i ≤ d.length) ∧ (recL (d.length + 1) d = (acc ++ (recL (m + 1) (d.drop i)).1, i + (recL (m + 1) (d.drop i)).2)) ∧ (d.length - i ≤ m) ∧ (acc.length ≤ i)) rfl ?_ ?_
      · refine ⟨_, d.length, 0, t9, [], rfl, ?_, ?_, ?_, ?_, ?_, ?_⟩
        · (try simp only [go_sem, icast, byteRows_len, byteRows_drop, byteRows_take, toNat_nat, List.take_length, zeroV, tn2, tn3, fb1, fb3, ft9]) <;> first | exact ⟨rfl⟩ | (constructor; simp [batsD]; done)
        · (try simp only [go_sem, icast, byteRows_len, byteRows_drop, byteRows_take, toNat_nat, List.take_length, zeroV, tn2, tn3, fb1, fb3, ft9]) <;> first | exact ⟨rfl⟩ | (constructor; simp; done)
        all_goals (first | omega | (simp; done))
      · rintro _ _ _ ⟨m, i, w, acc, rfl, ⟨rfl⟩, ⟨rfl⟩, h1, h2, h3, h4⟩
        simp only [go_sem]
        refine AWp.seq fun K7 hK7 => ?_
        refine AWp.rs fun K8 hK8 => ?_
        try simp only [go_sem, icast, byteRows_len, byteRows_drop, byteRows_take, toNat_nat, List.take_length, zeroV, tn2, tn3, fb1, fb3, ft9]
        (repeat (with_reducible refine And.intro ?_ ?_; omega))
        refine hK8 _ _ ?_
        try clear hK8 K8
        refine AWp.mask [true, true, true, true, false, false, false, false, false, true] rfl ?_
        simp only [go_sem]
        refine AWp.cond _ rfl (fun hc1 => ?_) (fun hc1 => ?_)
        · skip
          try simp only [decide_eq_true_eq, decide_eq_false_iff_not, Bool.not_eq_true', Bool.not_eq_false', Bool.and_eq_true, Bool.or_eq_true, Bool.and_eq_false_iff, Bool.or_eq_false_iff, Int.not_lt, Int.not_le, beq_iff_eq, beq_eq_false_iff_ne, ne_eq, Bool.not_eq_true, Bool.not_eq_false] at hc1
          have hi3 : i + 3 ≤ d.length := by omega
          have hu0 := u8_lt (d.getD i 0)
          have hu1 := u8_lt (d.getD (i + 1) 0)
          have hu2 := u8_lt (d.getD (i + 2) 0)
          refine AWp.skip ?_
          refine thenQ_n ?_
          refine hK7 _ _ ?_
          try clear hK7 K7
          refine AWp.block ?_
          refine AWp.ds true [0, 1, 2, 3, 4, 5, 6, 7, 8, 9, 10, 11, 12, 13, 14, 15, 16, 17, 18, 19, 20, 21, 22, 23, 24, 25, 26, 27] rfl (by kernel_rfl) fun K9 hK9 => ?_
          try simp only [go_sem, icast, byteRows_len, byteRows_drop, byteRows_take, toNat_nat, List.take_length, zeroV, tn2, tn3, fb1, fb3, ft9, byteRows_getD d i _ (show i < d.length by omega), byteRows_getD d (i + 1) _ (show i + 1 < d.length by omega), byteRows_getD d (i + 2) _ (show i + 2 < d.length by omega)]
          (repeat (with_reducible refine And.intro ?_ ?_; omega))
          have hen : ((i : Int) + 3 + 65536 * ((d.getD i 0).toNat : Int) + 256 * ((d.getD (i + 1) 0).toNat : Int) + ((d.getD (i + 2) 0).toNat : Int)) = ((i + (3 + numT ((d.drop i).take 3)) : Nat) : Int) := by rw [num3_at hi3]; omega
          rw [hen]
          have hF : (d.take (i + (3 + numT ((d.drop i).take 3)))).drop (i + 3) = (((d.drop i).drop 3).take (numT ((d.drop i).take 3))) := by rw [List.drop_take, List.drop_drop]; congr 1; omega
          have hl3 : 3 ≤ (d.drop i).length := by rw [List.length_drop]; omega
          have hld : ((d.drop i).drop 3).length = d.length - i - 3 := by rw [List.length_drop, List.length_drop]
          clear hen
          refine hK9 _ _ ?_
          try clear hK9 K9
          refine AWp.mask [true, true, true, true, true] rfl ?_
          simp only [go_sem]
          refine AWp.seq fun K10 hK10 => ?_
          refine AWp.rs fun K11 hK11 => ?_
          try simp only [go_sem, icast, byteRows_len, byteRows_drop, byteRows_take, toNat_nat, List.take_length, zeroV, tn2, tn3, fb1, fb3, ft9, byteRows_getD d i _ (show i < d.length by omega), byteRows_getD d (i + 1) _ (show i + 1 < d.length by omega), byteRows_getD d (i + 2) _ (show i + 2 < d.length by omega)]
          refine hK11 _ _ ?_
          try clear hK11 K11
          refine AWp.mask [true, true, true, true, true, false, false, false, false, true] rfl ?_
          simp only [go_sem]
          refine AWp.cond _ rfl (fun hc2 => ?_) (fun hc2 => ?_)
          · skip
            try simp only [decide_eq_true_eq, decide_eq_false_iff_not, Bool.not_eq_true', Bool.not_eq_false', Bool.and_eq_true, Bool.or_eq_true, Bool.and_eq_false_iff, Bool.or_eq_false_iff, Int.not_lt, Int.not_le, beq_iff_eq, beq_eq_false_iff_ne, ne_eq, Bool.not_eq_true, Bool.not_eq_false] at hc2
            have hfr := frame_2 hl3 (by rw [hld]; omega)
            refine AWp.exit ?_
            refine thenQ_e (blkQ_d (by decide) (thenQ_e (blkQ_e (thenQ_n ?_))))
            refine hK6 _ _ ?_
            try clear hK6 K6
            refine AWp.rs fun K12 hK12 => ?_
            try simp only [go_sem, icast, byteRows_len, byteRows_drop, byteRows_take, toNat_nat, List.take_length, zeroV, tn2, tn3, fb1, fb3, ft9, byteRows_getD d i _ (show i < d.length by omega), byteRows_getD d (i + 1) _ (show i + 1 < d.length by omega), byteRows_getD d (i + 2) _ (show i + 2 < d.length by omega)]
            refine hK12 _ _ ?_
            try clear hK12 K12
            refine AWp.mask [true, true, true, true, false, true] rfl ?_
            simp only [go_sem]
            refine AWp.seq fun K13 hK13 => ?_
            refine AWp.rs fun K14 hK14 => ?_
            try simp only [go_sem, icast, byteRows_len, byteRows_drop, byteRows_take, toNat_nat, List.take_length, zeroV, tn2, tn3, fb1, fb3, ft9, byteRows_getD d i _ (show i < d.length by omega), byteRows_getD d (i + 1) _ (show i + 1 < d.length by omega), byteRows_getD d (i + 2) _ (show i + 2 < d.length by omega)]
            refine hK14 _ _ ?_
            try clear hK14 K14
            refine AWp.cond _ rfl (fun hc4 => ?_) (fun hc4 => ?_)
            · skip
              try simp only [decide_eq_true_eq, decide_eq_false_iff_not, Bool.not_eq_true', Bool.not_eq_false', Bool.and_eq_true, Bool.or_eq_true, Bool.and_eq_false_iff, Bool.or_eq_false_iff, Int.not_lt, Int.not_le, beq_iff_eq, beq_eq_false_iff_ne, ne_eq, Bool.not_eq_true, Bool.not_eq_false] at hc4
              refine AWp.rk fun K15 hK15 => ?_
              try simp only [go_sem, icast, byteRows_len, byteRows_drop, byteRows_take, toNat_nat, List.take_length, zeroV, tn2, tn3, fb1, fb3, ft9, byteRows_getD d i _ (show i < d.length by omega), byteRows_getD d (i + 1) _ (show i + 1 < d.length by omega), byteRows_getD d (i + 2) _ (show i + 2 < d.length by omega)]
              refine hK15 _ _ ?_
              try clear hK15 K15
              refine thenQ_n ?_
              refine hK13 _ _ ?_
              try clear hK13 K13
              refine AWp.mask [true, true, true, true, true] rfl ?_
              simp only [go_sem]
              refine AWp.rs fun K16 hK16 => ?_
              try simp only [go_sem, icast, byteRows_len, byteRows_drop, byteRows_take, toNat_nat, List.take_length, zeroV, tn2, tn3, fb1, fb3, ft9, byteRows_getD d i _ (show i < d.length by omega), byteRows_getD d (i + 1) _ (show i + 1 < d.length by omega), byteRows_getD d (i + 2) _ (show i + 2 < d.length by omega)]
              (repeat (with_reducible refine And.intro ?_ ?_; omega))
              refine DW.pc rfl rfl rfl rfl (joined_c T (d.take i) [] (by simp only [List.length_take, List.length_nil]; omega)) (by (try simp only [go_sem, List.map_cons, List.map_nil, List.cons_append, List.nil_append]); simp [LeL, LeA, LeD, byteRows]) ?_
              try simp only [go_sem, icast, byteRows_len, byteRows_drop, byteRows_take, toNat_nat, List.take_length, zeroV, tn2, tn3, fb1, fb3, ft9, byteRows_getD d i _ (show i < d.length by omega), byteRows_getD d (i + 1) _ (show i + 1 < d.length by omega), byteRows_getD d (i + 2) _ (show i + 2 < d.length by omega)]
              refine hK16 _ _ ?_
              try clear hK16 K16
              refine AWp.mask [false, true, true, true] rfl ?_
              simp only [go_sem]
              refine AWp.ret ?_
              try simp only [go_sem, icast, byteRows_len, byteRows_drop, byteRows_take, toNat_nat, List.take_length, zeroV, tn2, tn3, fb1, fb3, ft9, byteRows_getD d i _ (show i < d.length by omega), byteRows_getD d (i + 1) _ (show i + 1 < d.length by omega), byteRows_getD d (i + 2) _ (show i + 2 < d.length by omega)]
              rw [rec_2 ok (rec_stop h2 hfr)]
              simp only [recN]
              first | (rw [if_pos hc4]; simp [LeA, LeL, LeD]; done) | (rw [if_neg (by omega)]; simp [LeA, LeL, LeD])
            · skip
              try simp only [decide_eq_true_eq, decide_eq_false_iff_not, Bool.not_eq_true', Bool.not_eq_false', Bool.and_eq_true, Bool.or_eq_true, Bool.and_eq_false_iff, Bool.or_eq_false_iff, Int.not_lt, Int.not_le, beq_iff_eq, beq_eq_false_iff_ne, ne_eq, Bool.not_eq_true, Bool.not_eq_false] at hc4
              refine AWp.skip ?_
              refine thenQ_n ?_
              refine hK13 _ _ ?_
              try clear hK13 K13
              refine AWp.rs fun K17 hK17 => ?_
              try simp only [go_sem, icast, byteRows_len, byteRows_drop, byteRows_take, toNat_nat, List.take_length, zeroV, tn2, tn3, fb1, fb3, ft9, byteRows_getD d i _ (show i < d.length by omega), byteRows_getD d (i + 1) _ (show i + 1 < d.length by omega), byteRows_getD d (i + 2) _ (show i + 2 < d.length by omega)]
              (repeat (with_reducible refine And.intro ?_ ?_; omega))
              refine DW.pc rfl rfl rfl rfl (joined_c T (d.take i) [] (by simp only [List.length_take, List.length_nil]; omega)) (by (try simp only [go_sem, List.map_cons, List.map_nil, List.cons_append, List.nil_append]); simp [LeL, LeA, LeD, byteRows]) ?_
              try simp only [go_sem, icast, byteRows_len, byteRows_drop, byteRows_take, toNat_nat, List.take_length, zeroV, tn2, tn3, fb1, fb3, ft9, byteRows_getD d i _ (show i < d.length by omega), byteRows_getD d (i + 1) _ (show i + 1 < d.length by omega), byteRows_getD d (i + 2) _ (show i + 2 < d.length by omega)]
              refine hK17 _ _ ?_
              try clear hK17 K17
              refine AWp.mask [false, true, true, true] rfl ?_
              simp only [go_sem]
              refine AWp.ret ?_
              try simp only [go_sem, icast, byteRows_len, byteRows_drop, byteRows_take, toNat_nat, List.take_length, zeroV, tn2, tn3, fb1, fb3, ft9, byteRows_getD d i _ (show i < d.length by omega), byteRows_getD d (i + 1) _ (show i + 1 < d.length by omega), byteRows_getD d (i + 2) _ (show i + 2 < d.length by omega)]
              rw [rec_2 ok (rec_stop h2 hfr)]
              simp only [recN]
              first | (rw [if_pos hc4]; simp [LeA, LeL, LeD]; done) | (rw [if_neg (by omega)]; simp [LeA, LeL, LeD])
          · skip
            try simp only [decide_eq_true_eq, decide_eq_false_iff_not, Bool.not_eq_true', Bool.not_eq_false', Bool.and_eq_true, Bool.or_eq_true, Bool.and_eq_false_iff, Bool.or_eq_false_iff, Int.not_lt, Int.not_le, beq_iff_eq, beq_eq_false_iff_ne, ne_eq, Bool.not_eq_true, Bool.not_eq_false] at hc2
            have hs : numT ((d.drop i).take 3) ≤ ((d.drop i).drop 3).length := by rw [hld]; omega
            refine AWp.skip ?_
            refine thenQ_n ?_
            refine hK10 _ _ ?_
            try clear hK10 K10
            rcases hq : decB (((d.drop i).drop 3).take (numT ((d.drop i).take 3))) with _ | ⟨u, l⟩
            · skip
              obtain ⟨e, he, hV⟩ := decV_none hq
              have hfr := frame_3 hl3 hs hq
              refine AWp.rs fun K18 hK18 => ?_
              try simp only [go_sem, icast, byteRows_len, byteRows_drop, byteRows_take, toNat_nat, List.take_length, zeroV, tn2, tn3, fb1, fb3, ft9, byteRows_getD d i _ (show i < d.length by omega), byteRows_getD d (i + 1) _ (show i + 1 < d.length by omega), byteRows_getD d (i + 2) _ (show i + 2 < d.length by omega), hF]
              (repeat (with_reducible refine And.intro ?_ ?_; omega))
              refine DW.pcr rfl rfl rfl rfl (BatchOf_none T hL _ e hV) rfl rfl ?_
              try simp only [go_sem, icast, byteRows_len, byteRows_drop, byteRows_take, toNat_nat, List.take_length, zeroV, tn2, tn3, fb1, fb3, ft9, byteRows_getD d i _ (show i < d.length by omega), byteRows_getD d (i + 1) _ (show i + 1 < d.length by omega), byteRows_getD d (i + 2) _ (show i + 2 < d.length by omega), hF]
              intro b8
              first | intro fb8 | have fb8 := True.intro
              try simp only [freshL] at fb8
              refine hK18 _ _ ?_
              try clear hK18 K18
              refine AWp.mask [true, true, true, true, true, true, true] rfl ?_
              simp only [go_sem]
              refine AWp.seq fun K19 hK19 => ?_
              refine AWp.rs fun K20 hK20 => ?_
              try simp only [go_sem, icast, byteRows_len, byteRows_drop, byteRows_take, toNat_nat, List.take_length, zeroV, tn2, tn3, fb1, fb3, ft9, byteRows_getD d i _ (show i < d.length by omega), byteRows_getD d (i + 1) _ (show i + 1 < d.length by omega), byteRows_getD d (i + 2) _ (show i + 2 < d.length by omega), hF, fb8]
              refine hK20 _ _ ?_
              try clear hK20 K20
              refine AWp.cond _ rfl (fun hc3 => ?_) (fun hc3 => ?_)
              · skip
                try simp only [decide_eq_true_eq, decide_eq_false_iff_not, Bool.not_eq_true', Bool.not_eq_false', Bool.and_eq_true, Bool.or_eq_true, Bool.and_eq_false_iff, Bool.or_eq_false_iff, Int.not_lt, Int.not_le, beq_iff_eq, beq_eq_false_iff_ne, ne_eq, Bool.not_eq_true, Bool.not_eq_false] at hc3
                refine AWp.exit ?_
                refine thenQ_e (blkQ_d (by decide) (thenQ_e (blkQ_e (thenQ_n ?_))))
                refine hK6 _ _ ?_
                try clear hK6 K6
                refine AWp.mask [true, true, true, true] rfl ?_
                simp only [go_sem]
                refine AWp.rs fun K21 hK21 => ?_
                try simp only [go_sem, icast, byteRows_len, byteRows_drop, byteRows_take, toNat_nat, List.take_length, zeroV, tn2, tn3, fb1, fb3, ft9, byteRows_getD d i _ (show i < d.length by omega), byteRows_getD d (i + 1) _ (show i + 1 < d.length by omega), byteRows_getD d (i + 2) _ (show i + 2 < d.length by omega), hF, fb8]
                refine hK21 _ _ ?_
                try clear hK21 K21
                refine AWp.seq fun K22 hK22 => ?_
                refine AWp.rs fun K23 hK23 => ?_
                try simp only [go_sem, icast, byteRows_len, byteRows_drop, byteRows_take, toNat_nat, List.take_length, zeroV, tn2, tn3, fb1, fb3, ft9, byteRows_getD d i _ (show i < d.length by omega), byteRows_getD d (i + 1) _ (show i + 1 < d.length by omega), byteRows_getD d (i + 2) _ (show i + 2 < d.length by omega), hF, fb8]
                refine hK23 _ _ ?_
                try clear hK23 K23
                refine AWp.mask [true, true, true, true, true, false, false, false, false, true] rfl ?_
                simp only [go_sem]
                refine AWp.cond _ rfl (fun hc4 => ?_) (fun hc4 => ?_)
                · skip
                  try simp only [decide_eq_true_eq, decide_eq_false_iff_not, Bool.not_eq_true', Bool.not_eq_false', Bool.and_eq_true, Bool.or_eq_true, Bool.and_eq_false_iff, Bool.or_eq_false_iff, Int.not_lt, Int.not_le, beq_iff_eq, beq_eq_false_iff_ne, ne_eq, Bool.not_eq_true, Bool.not_eq_false] at hc4
                  refine AWp.rk fun K24 hK24 => ?_
                  try simp only [go_sem, icast, byteRows_len, byteRows_drop, byteRows_take, toNat_nat, List.take_length, zeroV, tn2, tn3, fb1, fb3, ft9, byteRows_getD d i _ (show i < d.length by omega), byteRows_getD d (i + 1) _ (show i + 1 < d.length by omega), byteRows_getD d (i + 2) _ (show i + 2 < d.length by omega), hF, fb8]
                  refine hK24 _ _ ?_
                  try clear hK24 K24
                  refine thenQ_n ?_
                  refine hK22 _ _ ?_
                  try clear hK22 K22
                  refine AWp.rs fun K25 hK25 => ?_
                  try simp only [go_sem, icast, byteRows_len, byteRows_drop, byteRows_take, toNat_nat, List.take_length, zeroV, tn2, tn3, fb1, fb3, ft9, byteRows_getD d i _ (show i < d.length by omega), byteRows_getD d (i + 1) _ (show i + 1 < d.length by omega), byteRows_getD d (i + 2) _ (show i + 2 < d.length by omega), hF, fb8]
                  (repeat (with_reducible refine And.intro ?_ ?_; omega))
                  refine DW.pc rfl rfl rfl rfl (joined_c T (d.take i) [] (by simp only [List.length_take, List.length_nil]; omega)) (by (try simp only [go_sem, List.map_cons, List.map_nil, List.cons_append, List.nil_append]); simp [LeL, LeA, LeD, byteRows]) ?_
                  try simp only [go_sem, icast, byteRows_len, byteRows_drop, byteRows_take, toNat_nat, List.take_length, zeroV, tn2, tn3, fb1, fb3, ft9, byteRows_getD d i _ (show i < d.length by omega), byteRows_getD d (i + 1) _ (show i + 1 < d.length by omega), byteRows_getD d (i + 2) _ (show i + 2 < d.length by omega), hF, fb8]
                  refine hK25 _ _ ?_
                  try clear hK25 K25
                  refine AWp.mask [false, true, true, true] rfl ?_
                  simp only [go_sem]
                  refine AWp.ret ?_
                  try simp only [go_sem, icast, byteRows_len, byteRows_drop, byteRows_take, toNat_nat, List.take_length, zeroV, tn2, tn3, fb1, fb3, ft9, byteRows_getD d i _ (show i < d.length by omega), byteRows_getD d (i + 1) _ (show i + 1 < d.length by omega), byteRows_getD d (i + 2) _ (show i + 2 < d.length by omega), hF, fb8]
                  rw [rec_2 ok (rec_stop h2 hfr)]
                  simp only [recN]
                  first | (rw [if_pos hc4]; simp [LeA, LeL, LeD]; done) | (rw [if_neg (by omega)]; simp [LeA, LeL, LeD])
                · skip
                  try simp only [decide_eq_true_eq, decide_eq_false_iff_not, Bool.not_eq_true', Bool.not_eq_false', Bool.and_eq_true, Bool.or_eq_true, Bool.and_eq_false_iff, Bool.or_eq_false_iff, Int.not_lt, Int.not_le, beq_iff_eq, beq_eq_false_iff_ne, ne_eq, Bool.not_eq_true, Bool.not_eq_false] at hc4
                  refine AWp.skip ?_
                  refine thenQ_n ?_
                  refine hK22 _ _ ?_
                  try clear hK22 K22
                  refine AWp.rs fun K26 hK26 => ?_
                  try simp only [go_sem, icast, byteRows_len, byteRows_drop, byteRows_take, toNat_nat, List.take_length, zeroV, tn2, tn3, fb1, fb3, ft9, byteRows_getD d i _ (show i < d.length by omega), byteRows_getD d (i + 1) _ (show i + 1 < d.length by omega), byteRows_getD d (i + 2) _ (show i + 2 < d.length by omega), hF, fb8]
                  (repeat (with_reducible refine And.intro ?_ ?_; omega))
                  refine DW.pc rfl rfl rfl rfl (joined_c T (d.take i) [] (by simp only [List.length_take, List.length_nil]; omega)) (by (try simp only [go_sem, List.map_cons, List.map_nil, List.cons_append, List.nil_append]); simp [LeL, LeA, LeD, byteRows]) ?_
                  try simp only [go_sem, icast, byteRows_len, byteRows_drop, byteRows_take, toNat_nat, List.take_length, zeroV, tn2, tn3, fb1, fb3, ft9, byteRows_getD d i _ (show i < d.length by omega), byteRows_getD d (i + 1) _ (show i + 1 < d.length by omega), byteRows_getD d (i + 2) _ (show i + 2 < d.length by omega), hF, fb8]
                  refine hK26 _ _ ?_
                  try clear hK26 K26
                  refine AWp.mask [false, true, true, true] rfl ?_
                  simp only [go_sem]
                  refine AWp.ret ?_
                  try simp only [go_sem, icast, byteRows_len, byteRows_drop, byteRows_take, toNat_nat, List.take_length, zeroV, tn2, tn3, fb1, fb3, ft9, byteRows_getD d i _ (show i < d.length by omega), byteRows_getD d (i + 1) _ (show i + 1 < d.length by omega), byteRows_getD d (i + 2) _ (show i + 2 < d.length by omega), hF, fb8]
                  rw [rec_2 ok (rec_stop h2 hfr)]
                  simp only [recN]
                  first | (rw [if_pos hc4]; simp [LeA, LeL, LeD]; done) | (rw [if_neg (by omega)]; simp [LeA, LeL, LeD])
              · skip
                exfalso
                simp [he] at hc3
            · skip
              have hfr := frame_4 hl3 hs hq
              refine AWp.rs fun K18 hK18 => ?_
              try simp only [go_sem, icast, byteRows_len, byteRows_drop, byteRows_take, toNat_nat, List.take_length, zeroV, tn2, tn3, fb1, fb3, ft9, byteRows_getD d i _ (show i < d.length by omega), byteRows_getD d (i + 1) _ (show i + 1 < d.length by omega), byteRows_getD d (i + 2) _ (show i + 2 < d.length by omega), hF]
              (repeat (with_reducible refine And.intro ?_ ?_; omega))
              refine DW.pcr rfl rfl rfl rfl (BatchOf_some T hL _ u l hq) rfl rfl ?_
              try simp only [go_sem, icast, byteRows_len, byteRows_drop, byteRows_take, toNat_nat, List.take_length, zeroV, tn2, tn3, fb1, fb3, ft9, byteRows_getD d i _ (show i < d.length by omega), byteRows_getD d (i + 1) _ (show i + 1 < d.length by omega), byteRows_getD d (i + 2) _ (show i + 2 < d.length by omega), hF]
              intro b8
              first | intro fb8 | have fb8 := True.intro
              try simp only [freshL] at fb8
              refine hK18 _ _ ?_
              try clear hK18 K18
              refine AWp.mask [true, true, true, true, true, true, true] rfl ?_
              simp only [go_sem]
              refine AWp.seq fun K27 hK27 => ?_
              refine AWp.rs fun K28 hK28 => ?_
              try simp only [go_sem, icast, byteRows_len, byteRows_drop, byteRows_take, toNat_nat, List.take_length, zeroV, tn2, tn3, fb1, fb3, ft9, byteRows_getD d i _ (show i < d.length by omega), byteRows_getD d (i + 1) _ (show i + 1 < d.length by omega), byteRows_getD d (i + 2) _ (show i + 2 < d.length by omega), hF, fb8]
              refine hK28 _ _ ?_
              try clear hK28 K28
              refine AWp.cond _ rfl (fun hc3 => ?_) (fun hc3 => ?_)
              · skip
                exact absurd hc3 (by simp)
              · skip
                try simp only [decide_eq_true_eq, decide_eq_false_iff_not, Bool.not_eq_true', Bool.not_eq_false', Bool.and_eq_true, Bool.or_eq_true, Bool.and_eq_false_iff, Bool.or_eq_false_iff, Int.not_lt, Int.not_le, beq_iff_eq, beq_eq_false_iff_ne, ne_eq, Bool.not_eq_true, Bool.not_eq_false] at hc3
                refine AWp.skip ?_
                refine thenQ_n ?_
                refine hK27 _ _ ?_
                try clear hK27 K27
                refine AWp.mask [true, true, true, false, true, true] rfl ?_
                simp only [go_sem]
                refine AWp.rs fun K29 hK29 => ?_
                try simp only [go_sem, icast, byteRows_len, byteRows_drop, byteRows_take, toNat_nat, List.take_length, zeroV, tn2, tn3, fb1, fb3, ft9, byteRows_getD d i _ (show i < d.length by omega), byteRows_getD d (i + 1) _ (show i + 1 < d.length by omega), byteRows_getD d (i + 2) _ (show i + 2 < d.length by omega), hF, fb8]
                refine DW.app rfl rfl rfl rfl (show slI Tryd.prog 44 = some (37, 2, 32) by simp only [go_sem]) rfl rfl (by simp only [go_sem, icast, byteRows_len, byteRows_drop, byteRows_take, toNat_nat, List.take_length, zeroV, tn2, tn3, fb1, fb3, ft9, byteRows_getD d i _ (show i < d.length by omega), byteRows_getD d (i + 1) _ (show i + 1 < d.length by omega), byteRows_getD d (i + 2) _ (show i + 2 < d.length by omega), hF, fb8]) (by first | exact .inl rfl | exact .inr rfl) (by (try simp only [go_sem, byteRows_len, List.length_append, List.length_cons, List.length_nil, wideR_len, txS_len]); omega) (by (try simp only [go_sem, byteRows_len, List.length_append, List.length_cons, List.length_nil, wideR_len, txS_len]); omega) fun t1 ft1 => ?_
                try simp only [freshT] at ft1
                try simp only [go_sem, icast, byteRows_len, byteRows_drop, byteRows_take, toNat_nat, List.take_length, zeroV, tn2, tn3, fb1, fb3, ft9, byteRows_getD d i _ (show i < d.length by omega), byteRows_getD d (i + 1) _ (show i + 1 < d.length by omega), byteRows_getD d (i + 2) _ (show i + 2 < d.length by omega), hF, fb8, ft1]
                refine hK29 _ _ ?_
                try clear hK29 K29
                refine AWp.mask [true, true, true, true] rfl ?_
                simp only [go_sem]
                refine AWp.rk fun K30 hK30 => ?_
                try simp only [go_sem, icast, byteRows_len, byteRows_drop, byteRows_take, toNat_nat, List.take_length, zeroV, tn2, tn3, fb1, fb3, ft9, byteRows_getD d i _ (show i < d.length by omega), byteRows_getD d (i + 1) _ (show i + 1 < d.length by omega), byteRows_getD d (i + 2) _ (show i + 2 < d.length by omega), hF, fb8, ft1]
                refine hK30 _ _ ?_
                try clear hK30 K30
                refine blkQ_n (thenQ_n ?_)
                refine EndS.mk [true, true] [false, false, true, true] [b8] [] [b3, b1] [t1] rfl ?_ ?_
                · (try simp only [go_sem, icast, byteRows_len, byteRows_drop, byteRows_take, toNat_nat, List.take_length, zeroV, tn2, tn3, fb1, fb3, ft9, byteRows_getD d i _ (show i < d.length by omega), byteRows_getD d (i + 1) _ (show i + 1 < d.length by omega), byteRows_getD d (i + 2) _ (show i + 2 < d.length by omega), hF, fb8, ft1]) <;> try rfl
                refine .e ⟨_, ?_, (m - 1), (i + (3 + numT ((d.drop i).take 3))), t1, (acc ++ [(u, l)]), rfl, ?_, ?_, ?_, ?_, ?_, ?_⟩
                · first | omega | (simp; omega) | (grind)
                · (try simp only [go_sem, icast, byteRows_len, byteRows_drop, byteRows_take, toNat_nat, List.take_length, zeroV, tn2, tn3, fb1, fb3, ft9, byteRows_getD d i _ (show i < d.length by omega), byteRows_getD d (i + 1) _ (show i + 1 < d.length by omega), byteRows_getD d (i + 2) _ (show i + 2 < d.length by omega), hF, fb8, ft1]) <;> first | exact ⟨rfl⟩ | (constructor; first | (simp [batsD, batD]; done) | (simp [batsD, batD]; omega))
                · (try simp only [go_sem, icast, byteRows_len, byteRows_drop, byteRows_take, toNat_nat, List.take_length, zeroV, tn2, tn3, fb1, fb3, ft9, byteRows_getD d i _ (show i < d.length by omega), byteRows_getD d (i + 1) _ (show i + 1 < d.length by omega), byteRows_getD d (i + 2) _ (show i + 2 < d.length by omega), hF, fb8, ft1]) <;> first | exact ⟨rfl⟩ | (constructor; simp; done)
                · omega
                · rw [show m - 1 + 1 = m by omega]; exact rec_step h2 hfr
                · omega
                · simp; omega
        · skip
          try simp only [decide_eq_true_eq, decide_eq_false_iff_not, Bool.not_eq_true', Bool.not_eq_false', Bool.and_eq_true, Bool.or_eq_true, Bool.and_eq_false_iff, Bool.or_eq_false_iff, Int.not_lt, Int.not_le, beq_iff_eq, beq_eq_false_iff_ne, ne_eq, Bool.not_eq_true, Bool.not_eq_false] at hc1
          have hfr := frame_1 (r := d.drop i) (by rw [List.length_drop]; omega)
          refine AWp.exit ?_
          refine thenQ_e (thenQ_e (blkQ_e (thenQ_n ?_)))
          refine hK6 _ _ ?_
          try clear hK6 K6
          refine AWp.rs fun K31 hK31 => ?_
          try simp only [go_sem, icast, byteRows_len, byteRows_drop, byteRows_take, toNat_nat, List.take_length, zeroV, tn2, tn3, fb1, fb3, ft9]
          refine hK31 _ _ ?_
          try clear hK31 K31
          refine AWp.seq fun K32 hK32 => ?_
          refine AWp.rs fun K33 hK33 => ?_
          try simp only [go_sem, icast, byteRows_len, byteRows_drop, byteRows_take, toNat_nat, List.take_length, zeroV, tn2, tn3, fb1, fb3, ft9]
          refine hK33 _ _ ?_
          try clear hK33 K33
          refine AWp.mask [true, true, true, true, true, false, false, false, false, false, true] rfl ?_
          simp only [go_sem]
          refine AWp.cond _ rfl (fun hc4 => ?_) (fun hc4 => ?_)
          · skip
            try simp only [decide_eq_true_eq, decide_eq_false_iff_not, Bool.not_eq_true', Bool.not_eq_false', Bool.and_eq_true, Bool.or_eq_true, Bool.and_eq_false_iff, Bool.or_eq_false_iff, Int.not_lt, Int.not_le, beq_iff_eq, beq_eq_false_iff_ne, ne_eq, Bool.not_eq_true, Bool.not_eq_false] at hc4
            refine AWp.rk fun K34 hK34 => ?_
            try simp only [go_sem, icast, byteRows_len, byteRows_drop, byteRows_take, toNat_nat, List.take_length, zeroV, tn2, tn3, fb1, fb3, ft9]
            refine hK34 _ _ ?_
            try clear hK34 K34
            refine thenQ_n ?_
            refine hK32 _ _ ?_
            try clear hK32 K32
            refine AWp.rs fun K35 hK35 => ?_
            try simp only [go_sem, icast, byteRows_len, byteRows_drop, byteRows_take, toNat_nat, List.take_length, zeroV, tn2, tn3, fb1, fb3, ft9]
            (repeat (with_reducible refine And.intro ?_ ?_; omega))
            refine DW.pc rfl rfl rfl rfl (joined_c T (d.take i) [] (by simp only [List.length_take, List.length_nil]; omega)) (by (try simp only [go_sem, List.map_cons, List.map_nil, List.cons_append, List.nil_append]); simp [LeL, LeA, LeD, byteRows]) ?_
            try simp only [go_sem, icast, byteRows_len, byteRows_drop, byteRows_take, toNat_nat, List.take_length, zeroV, tn2, tn3, fb1, fb3, ft9]
            refine hK35 _ _ ?_
            try clear hK35 K35
            refine AWp.mask [false, true, true, true] rfl ?_
            simp only [go_sem]
            refine AWp.ret ?_
            try simp only [go_sem, icast, byteRows_len, byteRows_drop, byteRows_take, toNat_nat, List.take_length, zeroV, tn2, tn3, fb1, fb3, ft9]
            rw [rec_2 ok (rec_stop h2 hfr)]
            simp only [recN]
            first | (rw [if_pos hc4]; simp [LeA, LeL, LeD]; done) | (rw [if_neg (by omega)]; simp [LeA, LeL, LeD])
          · skip
            try simp only [decide_eq_true_eq, decide_eq_false_iff_not, Bool.not_eq_true', Bool.not_eq_false', Bool.and_eq_true, Bool.or_eq_true, Bool.and_eq_false_iff, Bool.or_eq_false_iff, Int.not_lt, Int.not_le, beq_iff_eq, beq_eq_false_iff_ne, ne_eq, Bool.not_eq_true, Bool.not_eq_false] at hc4
            refine AWp.skip ?_
            refine thenQ_n ?_
            refine hK32 _ _ ?_
            try clear hK32 K32
            refine AWp.rs fun K36 hK36 => ?_
            try simp only [go_sem, icast, byteRows_len, byteRows_drop, byteRows_take, toNat_nat, List.take_length, zeroV, tn2, tn3, fb1, fb3, ft9]
            (repeat (with_reducible refine And.intro ?_ ?_; omega))
            refine DW.pc rfl rfl rfl rfl (joined_c T (d.take i) [] (by simp only [List.length_take, List.length_nil]; omega)) (by (try simp only [go_sem, List.map_cons, List.map_nil, List.cons_append, List.nil_append]); simp [LeL, LeA, LeD, byteRows]) ?_
            try simp only [go_sem, icast, byteRows_len, byteRows_drop, byteRows_take, toNat_nat, List.take_length, zeroV, tn2, tn3, fb1, fb3, ft9]
            refine hK36 _ _ ?_
            try clear hK36 K36
            refine AWp.mask [false, true, true, true] rfl ?_
            simp only [go_sem]
            refine AWp.ret ?_
            try simp only [go_sem, icast, byteRows_len, byteRows_drop, byteRows_take, toNat_nat, List.take_length, zeroV, tn2, tn3, fb1, fb3, ft9]
            rw [rec_2 ok (rec_stop h2 hfr)]
            simp only [recN]
            first | (rw [if_pos hc4]; simp [LeA, LeL, LeD]; done) | (rw [if_neg (by omega)]; simp [LeA, LeL, LeD])
  · skip
    have no := ok
    refine AWp.rs fun K3 hK3 => ?_
    try simp only [go_sem, icast, byteRows_len, byteRows_drop, byteRows_take, toNat_nat, List.take_length, zeroV, tn2, tn3, fb1, fb3]
    refine DW.pcr rfl rfl rfl rfl (TapeMay_no T d sy no) rfl rfl ?_
    try simp only [go_sem, icast, byteRows_len, byteRows_drop, byteRows_take, toNat_nat, List.take_length, zeroV, tn2, tn3, fb1, fb3]
    refine hK3 _ _ ?_
    try clear hK3 K3
    refine AWp.mask [false, true, false, true, false, false, false, true] rfl ?_
    simp only [go_sem]
    refine AWp.cond _ rfl (fun hc0 => ?_) (fun hc0 => ?_)
    · skip
      try simp only [decide_eq_true_eq, decide_eq_false_iff_not, Bool.not_eq_true', Bool.not_eq_false', Bool.and_eq_true, Bool.or_eq_true, Bool.and_eq_false_iff, Bool.or_eq_false_iff, Int.not_lt, Int.not_le, beq_iff_eq, beq_eq_false_iff_ne, ne_eq, Bool.not_eq_true, Bool.not_eq_false] at hc0
      refine AWp.rs fun K37 hK37 => ?_
      try simp only [go_sem, icast, byteRows_len, byteRows_drop, byteRows_take, toNat_nat, List.take_length, zeroV, tn2, tn3, fb1, fb3]
      refine hK37 _ _ ?_
      try clear hK37 K37
      refine AWp.ret ?_
      try simp only [go_sem, icast, byteRows_len, byteRows_drop, byteRows_take, toNat_nat, List.take_length, zeroV, tn2, tn3, fb1, fb3]
      rw [rec_1 ok]; simp [LeA, LeL, LeD, byteRows, batsD]
    · skip
      exact absurd hc0 (by simp)
end Go.Proofs.YthhfbolhlbgbgaaDoor

namespace Go.Proofs.YthhfbolhlbgbgaaDoor
set_option linter.unusedSimpArgs false
set_option linter.unusedVariables false
theorem frame_ents {r : Tx} {p : Nat × List Ent} {k : Nat} (h : frameB r = some (p, k)) : p.2.length ≤ 10 := by
  unfold frameB at h
  split at h
  · cases h
  · split at h
    · cases h
    · split at h
      · cases h
      · rename_i q hq
        injection h with h
        injection h with h1 h2
        subst h1
        obtain ⟨u, l⟩ := q
        exact (decB_ents hq).1
theorem recL_ents : ∀ (n : Nat) (r : Tx), ∀ p ∈ (recL n r).1, p.2.length ≤ 10
  | 0, r, p, h => by simp [recL] at h
  | n + 1, r, p, h => by
    rw [recL] at h
    split at h
    · cases h
    · rename_i q k hq
      rcases List.mem_cons.1 h with rfl | h
      · exact frame_ents hq
      · exact recL_ents n _ p h
theorem recL_len : ∀ (n : Nat) (r : Tx), (recL n r).1.length ≤ n
  | 0, r => by simp [recL]
  | n + 1, r => by
    rw [recL]
    split
    · simp
    · have := recL_len n (r.drop (by assumption))
      simp only [List.length_cons]; omega
theorem recV_ents {d : Tx} {sy : Int} : ∀ p ∈ (recV d sy).1, p.2.length ≤ 10 := by
  unfold recV
  split
  · intro p h; cases h
  · exact recL_ents _ _
theorem recV_len {d : Tx} {sy : Int} : (recV d sy).1.length ≤ 100001 := by
  unfold recV
  split
  · simp
  · have := recL_len (d.length + 1) d
    simp only [recR]; omega
set_option maxRecDepth 4000 in
set_option maxHeartbeats 1000000 in
theorem sameBatches_c (T : Tbl) (l : List (Nat × List Ent)) (hl : l.length ≤ 10000000000000) (he : ∀ p ∈ l, p.2.length ≤ 10) : PC Tryd.prog T 26 [.d (.slc 2 (batsD l)), .d (.slc 2 (batsD l))] (.d (.bool true)) := by
  refine ⟨Tryd.call26, PCall.enterS Tryd.func26 rfl Tryd.ntmps26 rfl fun hb => ?_⟩
  simp only [go_sem, Tryd.results26]
  refine AWp.rs fun K1 hK1 => ?_
  try simp only [go_sem, icast]
  refine hK1 _ _ ?_
  try clear hK1 K1
  refine AWp.seq fun K2 hK2 => ?_
  refine AWp.rs fun K3 hK3 => ?_
  try simp only [go_sem, icast]
  refine hK3 _ _ ?_
  try clear hK3 K3
  refine AWp.mask [true, true, false, false, false, false, false, true] rfl ?_
  simp only [go_sem]
  refine AWp.cond _ rfl (fun hc0 => ?_) (fun hc0 => ?_)
  · skip
    exact absurd hc0 (by simp)
  · skip
    try simp only [decide_eq_true_eq, decide_eq_false_iff_not, Bool.not_eq_true', Bool.not_eq_false', Bool.and_eq_true, Bool.or_eq_true, Bool.and_eq_false_iff, Bool.or_eq_false_iff, Int.not_lt, Int.not_le, beq_iff_eq, beq_eq_false_iff_ne, ne_eq, Bool.not_eq_true, Bool.not_eq_false] at hc0
    refine AWp.skip ?_
    refine thenQ_n ?_
    refine hK2 _ _ ?_
    try clear hK2 K2
    refine AWp.seq fun K4 hK4 => ?_
    refine AWp.rs fun K5 hK5 => ?_
    try simp only [go_sem, icast]
    refine hK5 _ _ ?_
    try clear hK5 K5
    refine AWp.block ?_
    refine AWp.mask [true, true, true] rfl ?_
    simp only [go_sem]
    refine AWp.loopS [true, true] [false, false, true] (fun n lc hc => ∃ (k : Nat), n = l.length - k ∧ EqS lc [(5, .d (.int .i64 k))] ∧ EqS hc (⟨[], []⟩) ∧ (k ≤ l.length)) rfl ?_ ?_
    · refine ⟨_, 0, rfl, ?_, ?_, ?_⟩
      · (try simp only [go_sem, icast]) <;> first | exact ⟨rfl⟩ | (constructor; simp; done)
      · (try simp only [go_sem, icast]) <;> first | exact ⟨rfl⟩ | (constructor; simp; done)
      all_goals (first | omega | rfl | (simp; done) | (simp; omega) | assumption)
    · rintro _ _ _ ⟨k, rfl, ⟨rfl⟩, ⟨rfl⟩, h1⟩
      simp only [go_sem]
      refine AWp.seq fun K6 hK6 => ?_
      refine AWp.rs fun K7 hK7 => ?_
      try simp only [go_sem, icast]
      refine hK7 _ _ ?_
      try clear hK7 K7
      refine AWp.cond _ rfl (fun hc1 => ?_) (fun hc1 => ?_)
      · skip
        try simp only [decide_eq_true_eq, decide_eq_false_iff_not, Bool.not_eq_true', Bool.not_eq_false', Bool.and_eq_true, Bool.or_eq_true, Bool.and_eq_false_iff, Bool.or_eq_false_iff, Int.not_lt, Int.not_le, beq_iff_eq, beq_eq_false_iff_ne, ne_eq, Bool.not_eq_true, Bool.not_eq_false] at hc1
        have hlt : k < l.length := by omega
        have hle := he _ (List.getElem_mem hlt)
        refine AWp.skip ?_
        refine thenQ_n ?_
        refine hK6 _ _ ?_
        try clear hK6 K6
        refine AWp.mask [true, true, true] rfl ?_
        simp only [go_sem]
        refine AWp.seq fun K8 hK8 => ?_
        refine AWp.block ?_
        refine AWp.ds true [0, 1, 2, 3, 4, 5, 6, 7, 8, 9] rfl (by kernel_rfl) fun K9 hK9 => ?_
        try simp only [go_sem, icast, batsD_get hlt]
        (repeat (with_reducible refine And.intro ?_ ?_; omega))
        refine DW.pcr rfl rfl rfl rfl (sameBatch_c T ((l[k]'hlt).1 : Nat) (l[k]'hlt).2 (by omega)) rfl rfl ?_
        try simp only [go_sem, icast, batsD_get hlt]
        refine hK9 _ _ ?_
        try clear hK9 K9
        refine AWp.mask [true, true, true, false, false, false, false, false, false, false, false, false, true] rfl ?_
        simp only [go_sem]
        refine AWp.cond _ rfl (fun hc2 => ?_) (fun hc2 => ?_)
        · skip
          exact absurd hc2 (by simp)
        · skip
          try simp only [decide_eq_true_eq, decide_eq_false_iff_not, Bool.not_eq_true', Bool.not_eq_false', Bool.and_eq_true, Bool.or_eq_true, Bool.and_eq_false_iff, Bool.or_eq_false_iff, Int.not_lt, Int.not_le, beq_iff_eq, beq_eq_false_iff_ne, ne_eq, Bool.not_eq_true, Bool.not_eq_false] at hc2
          refine AWp.skip ?_
          refine blkQ_n (thenQ_n ?_)
          refine hK8 _ _ ?_
          try clear hK8 K8
          refine AWp.rk fun K10 hK10 => ?_
          try simp only [go_sem, icast, batsD_get hlt]
          (repeat (with_reducible refine And.intro ?_ ?_; omega))
          refine hK10 _ _ ?_
          try clear hK10 K10
          refine thenQ_n ?_
          refine EndS.mkr [true, true] [false, false, true] rfl ?_ ?_
          · (try simp only [go_sem, icast, batsD_get hlt]) <;> try rfl
          refine .e ⟨_, ?_, k + 1, rfl, ?_, ?_, ?_⟩
          · first | omega | (simp; omega) | (grind)
          · (try simp only [go_sem, icast, batsD_get hlt]) <;> first | exact ⟨rfl⟩ | (constructor; simp; done)
          · (try simp only [go_sem, icast, batsD_get hlt]) <;> first | exact ⟨rfl⟩ | (constructor; simp; done)
          all_goals (first | omega | assumption | grind)
      · skip
        try simp only [decide_eq_true_eq, decide_eq_false_iff_not, Bool.not_eq_true', Bool.not_eq_false', Bool.and_eq_true, Bool.or_eq_true, Bool.and_eq_false_iff, Bool.or_eq_false_iff, Int.not_lt, Int.not_le, beq_iff_eq, beq_eq_false_iff_ne, ne_eq, Bool.not_eq_true, Bool.not_eq_false] at hc1
        refine AWp.exit ?_
        refine thenQ_e (thenQ_e (blkQ_e (thenQ_n ?_)))
        refine hK4 _ _ ?_
        try clear hK4 K4
        refine AWp.mask [] rfl ?_
        simp only [go_sem]
        refine AWp.rs fun K11 hK11 => ?_
        try simp only [go_sem, icast]
        refine hK11 _ _ ?_
        try clear hK11 K11
        refine AWp.ret ?_
        try simp only [go_sem, icast]
        try simp [LeA, LeL, LeD]
set_option maxRecDepth 4000 in
set_option maxHeartbeats 1000000 in
theorem bookRecovers_c (T : Tbl) (hL : LibT T) (d : Tx) (sy : Int) (hd : d.length ≤ 140737488355328) : PC Tryd.prog T 5 [.agg [.d (.slc 1 (byteRows (d))), .d (.int .i64 sy)]] (.d (.bool true)) := by
  refine ⟨Tryd.call5, PCall.enterS Tryd.func5 rfl Tryd.ntmps5 rfl fun hb => ?_⟩
  simp only [go_sem, Tryd.results5]
  refine AWp.rs fun K1 hK1 => ?_
  try simp only [go_sem, decide_true, Bool.true_and]
  intro b1
  first | intro fb1 | have fb1 := True.intro
  try simp only [freshL] at fb1
  refine hK1 _ _ ?_
  try clear hK1 K1
  refine AWp.rs fun K2 hK2 => ?_
  try simp only [go_sem, decide_true, Bool.true_and, fb1]
  refine DW.pcr rfl rfl rfl rfl (tapes_c T d sy hd) rfl rfl ?_
  try simp only [go_sem, decide_true, Bool.true_and, fb1]
  intro b3
  first | intro fb3 | have fb3 := True.intro
  try simp only [freshL] at fb3
  refine hK2 _ _ ?_
  try clear hK2 K2
  refine AWp.mask [false, true, false, true] rfl ?_
  simp only [go_sem]
  refine AWp.rs fun K3 hK3 => ?_
  try simp only [go_sem, decide_true, Bool.true_and, fb1, fb3]
  refine DW.pcr rfl rfl rfl rfl (Recover_c T hL d sy) rfl rfl ?_
  try simp only [go_sem, decide_true, Bool.true_and, fb1, fb3]
  intro b4
  first | intro fb4 | have fb4 := True.intro
  try simp only [freshL] at fb4
  refine hK3 _ _ ?_
  try clear hK3 K3
  refine AWp.mask [true, true, true, true, true] rfl ?_
  simp only [go_sem]
  refine AWp.rs fun K5 hK5 => ?_
  try simp only [go_sem, decide_true, Bool.true_and, fb1, fb3, fb4]
  refine DW.pcr rfl rfl rfl rfl (TapeRecovered_c T hL d sy) rfl rfl ?_
  try simp only [go_sem, decide_true, Bool.true_and, fb1, fb3, fb4]
  intro b6
  first | intro fb6 | have fb6 := True.intro
  try simp only [freshL] at fb6
  refine hK5 _ _ ?_
  try clear hK5 K5
  refine AWp.mask [true, true, true, true, true, true, true, true] rfl ?_
  simp only [go_sem]
  refine AWp.rs fun K7 hK7 => ?_
  try simp only [go_sem, decide_true, Bool.true_and, fb1, fb3, fb4, fb6]
  refine DW.pcgr rfl rfl rfl rfl rfl (fun hg => sameBatches_c T (recV d sy).1 (by have := recV_len (d := d) (sy := sy); omega) recV_ents) (fun hg => by (try simp only [go_sem, decide_true, Bool.true_and, fb1, fb3, fb4, fb6]) <;> first | exact hg | (exfalso; simp at hg; done) | (simpa using hg) | grind) rfl rfl ?_
  try simp only [go_sem, decide_true, Bool.true_and, fb1, fb3, fb4, fb6]
  refine DW.pcgr rfl rfl rfl rfl rfl (fun hg => sameTape_c T _ _) (fun hg => by (try simp only [go_sem, decide_true, Bool.true_and, fb1, fb3, fb4, fb6]) <;> first | exact hg | (exfalso; simp at hg; done) | (simpa using hg) | grind) rfl rfl ?_
  try simp only [go_sem, decide_true, Bool.true_and, fb1, fb3, fb4, fb6]
  refine DW.pcgr rfl rfl rfl rfl rfl (fun hg => sameTape_c T _ _) (fun hg => by (try simp only [go_sem, decide_true, Bool.true_and, fb1, fb3, fb4, fb6]) <;> first | exact hg | (exfalso; simp at hg; done) | (simpa using hg) | grind) rfl rfl ?_
  try simp only [go_sem, decide_true, Bool.true_and, fb1, fb3, fb4, fb6]
  refine hK7 _ _ ?_
  try clear hK7 K7
  refine AWp.mask [false, true] rfl ?_
  simp only [go_sem]
  refine AWp.ret ?_
  try simp only [go_sem, decide_true, Bool.true_and, fb1, fb3, fb4, fb6]
  try simp [LeA, LeL, LeD]
end Go.Proofs.YthhfbolhlbgbgaaDoor

namespace Go.Proofs.YthhfbolhlbgbgaaDoor
open Go.RowKit Go.ChangeShapes Go.WideShapes Go.ChangeAt
set_option linter.unusedSimpArgs false
set_option linter.unusedVariables false
open Go.ChangeShapes Go.WideShapes Go.ChangeAt
set_option maxRecDepth 20000
theorem bookRecovers_run {H : Type} {enc : TypeId × Value → H} (W : World) (base : Nat) (v0 : Value) (d0 : DataW H) (p0 : List MemPlace)
    (k0 : Value.okWide Tryd.prog W .any base 35 v0) (h0 : DataW.Trod enc Tryd.prog W 0 (fun _ => true) true 35 v0 d0 p0) (s0 : Small Tryd.prog 35 d0)
    (hL : laidMetH Tryd.prog Rows.bookRecoversRow.laid W) (hsh : W.ShapedOpen Tryd.prog) :
    Calls Tryd.prog 5 #[v0] W fun e W' => e = .returned (.bool true) ∧ Below W.heap.size W W' := by
  obtain ⟨cs, rfl, hsz⟩ := okWide_struct Tryd.underlying35 k0
  obtain ⟨⟨d, sy⟩, hx, ds, z, rfl, hz, hr⟩ := DecR.open_ dec_tape h0
  have hx : VDs (frzW W) [.slc 1 (byteRows d), .int .i64 sy] cs.toList := hx
  obtain ⟨_, m, hm⟩ := Lib0.open_ hsh
  have hlen := rl_len (n := 1) hr Tryd.underlying33 (Small.part Tryd.underlying35 s0 (j := 0) rfl hz) (by kernel_rfl)
  dsimp only at hlen
  refine law_calls (T := libT m) (bookRecovers_c (libT m) (libT_lib m) d sy (by omega)) (libT_ok hm) ⟨rfl, fun i a ha => ?_⟩
  match i, ha with
  | 0, ha =>
    simp at ha
    subst ha
    exact ⟨_, rfl, hx.agg (G := gh0 W (frzW W))⟩
  | i + 1, ha => simp at ha
end Go.Proofs.YthhfbolhlbgbgaaDoor

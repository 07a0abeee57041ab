/- Texts that the law BookAppends rests on, packed. -/
import Derived.Test.YthhfbolhlbgbgaaDoorGP
import Derived.Test.YthhfbolhlbgbgaaDoorGC
import Derived.Test.YthhfbolhlbgbgaaDoorGD
namespace Go.Proofs.YthhfbolhlbgbgaaDoor
set_option linter.unusedSimpArgs false
set_option linter.unusedVariables false
set_option maxRecDepth 4000 in
set_option maxHeartbeats 1000000 in
theorem TapeAppended_c (T : Tbl) (hL : LibT T) (d : Tx) (sy u : Int) (l : List Ent) (oke : ∀ x ∈ l, EntOk x) : PC Tryd.prog T 22 [.agg [.d (.slc 1 (byteRows (d))), .d (.int .i64 sy)], .agg [.d (.int .i64 u), .d (.slc 6 (entsD l))]] (.tup [.agg [.d (.slc 1 (byteRows ((apR d sy u l).1))), .d (.int .i64 ((apR d sy u l).2.1))], .d (.int .i64 ((apR d sy u l).2.2))]) := by
  refine ⟨Tryd.call22, PCall.enterS Tryd.func22 rfl Tryd.ntmps22 rfl fun hb => ?_⟩
  simp only [go_sem, Tryd.results22]
  refine AWp.rs fun K1 hK1 => ?_
  try simp only [go_sem, icast, byteRows_len, encV, byteRows_one, byteRows_cons]
  (repeat (with_reducible refine And.intro ?_ ?_; (first | omega | (intro _; omega) | decide | (exact nfB) | (intro _; exact nfB) | (intro hg; refine ⟨hg, ?_⟩; omega) | (simp; done) | (simp; omega) | (intro hg; simp at hg; done) | (intro hg; simp at hg ⊢; first | omega | exact hg | grind))))
  intro b2
  first | intro fb2 | have fb2 := True.intro
  try simp only [freshL] at fb2
  try simp only [go_sem, icast, byteRows_len, encV, byteRows_one, byteRows_cons, fb2]
  (repeat (with_reducible refine And.intro ?_ ?_; (first | omega | (intro _; omega) | decide | (exact nfB) | (intro _; exact nfB) | (intro hg; refine ⟨hg, ?_⟩; omega) | (simp; done) | (simp; omega) | (intro hg; simp at hg; done) | (intro hg; simp at hg ⊢; first | omega | exact hg | grind))))
  intro b3
  first | intro fb3 | have fb3 := True.intro
  try simp only [freshL] at fb3
  try simp only [go_sem, icast, byteRows_len, encV, byteRows_one, byteRows_cons, fb2, fb3]
  (repeat (with_reducible refine And.intro ?_ ?_; (first | omega | (intro _; omega) | decide | (exact nfB) | (intro _; exact nfB) | (intro hg; refine ⟨hg, ?_⟩; omega) | (simp; done) | (simp; omega) | (intro hg; simp at hg; done) | (intro hg; simp at hg ⊢; first | omega | exact hg | grind))))
  intro b4
  first | intro fb4 | have fb4 := True.intro
  try simp only [freshL] at fb4
  try simp only [go_sem, icast, byteRows_len, encV, byteRows_one, byteRows_cons, fb2, fb3, fb4]
  (repeat (with_reducible refine And.intro ?_ ?_; (first | omega | (intro _; omega) | decide | (exact nfB) | (intro _; exact nfB) | (intro hg; refine ⟨hg, ?_⟩; omega) | (simp; done) | (simp; omega) | (intro hg; simp at hg; done) | (intro hg; simp at hg ⊢; first | omega | exact hg | grind))))
  refine hK1 _ _ ?_
  try clear hK1 K1
  refine AWp.seq fun K2 hK2 => ?_
  by_cases ok : TapeOk d sy
  · skip
    refine AWp.rs fun K3 hK3 => ?_
    try simp only [go_sem, icast, byteRows_len, encV, byteRows_one, byteRows_cons, fb2, fb3, fb4]
    (repeat (with_reducible refine And.intro ?_ ?_; (first | omega | (intro _; omega) | decide | (exact nfB) | (intro _; exact nfB) | (intro hg; refine ⟨hg, ?_⟩; omega) | (simp; done) | (simp; omega) | (intro hg; simp at hg; done) | (intro hg; simp at hg ⊢; first | omega | exact hg | grind))))
    refine DW.pcr rfl rfl rfl rfl (TapeMay_ok T d sy ok) rfl rfl ?_
    try simp only [go_sem, icast, byteRows_len, encV, byteRows_one, byteRows_cons, fb2, fb3, fb4]
    (repeat (with_reducible refine And.intro ?_ ?_; (first | omega | (intro _; omega) | decide | (exact nfB) | (intro _; exact nfB) | (intro hg; refine ⟨hg, ?_⟩; omega) | (simp; done) | (simp; omega) | (intro hg; simp at hg; done) | (intro hg; simp at hg ⊢; first | omega | exact hg | grind))))
    refine hK3 _ _ ?_
    try clear hK3 K3
    refine AWp.mask [false, false, true, true, true, false, false, false, true] rfl ?_
    simp only [go_sem]
    refine AWp.cond _ rfl (fun hc0 => ?_) (fun hc0 => ?_)
    · skip
      exact absurd hc0 (by simp)
    · skip
      try simp only [decide_eq_true_eq, decide_eq_false_iff_not, Bool.not_eq_true', Bool.not_eq_false', Bool.and_eq_true, Bool.or_eq_true, Bool.and_eq_false_iff, Bool.or_eq_false_iff, Int.not_lt, Int.not_le, beq_iff_eq, beq_eq_false_iff_ne, ne_eq, Bool.not_eq_true, Bool.not_eq_false] at hc0
      obtain ⟨ok1, ok2, ok3⟩ := id ok
      refine AWp.skip ?_
      refine thenQ_n ?_
      refine hK2 _ _ ?_
      try clear hK2 K2
      refine AWp.rs fun K4 hK4 => ?_
      try simp only [go_sem, icast, byteRows_len, encV, byteRows_one, byteRows_cons, fb2, fb3, fb4]
      (repeat (with_reducible refine And.intro ?_ ?_; (first | omega | (intro _; omega) | decide | (exact nfB) | (intro _; exact nfB) | (intro hg; refine ⟨hg, ?_⟩; omega) | (simp; done) | (simp; omega) | (intro hg; simp at hg; done) | (intro hg; simp at hg ⊢; first | omega | exact hg | grind))))
      refine DW.pcr rfl rfl rfl rfl (BatchBytes_c T hL u l oke) rfl rfl ?_
      try simp only [go_sem, icast, byteRows_len, encV, byteRows_one, byteRows_cons, fb2, fb3, fb4]
      (repeat (with_reducible refine And.intro ?_ ?_; (first | omega | (intro _; omega) | decide | (exact nfB) | (intro _; exact nfB) | (intro hg; refine ⟨hg, ?_⟩; omega) | (simp; done) | (simp; omega) | (intro hg; simp at hg; done) | (intro hg; simp at hg ⊢; first | omega | exact hg | grind))))
      refine hK4 _ _ ?_
      try clear hK4 K4
      refine AWp.mask [true, false, true, true, true] rfl ?_
      simp only [go_sem]
      refine AWp.seq fun K5 hK5 => ?_
      refine AWp.rs fun K6 hK6 => ?_
      try simp only [go_sem, icast, byteRows_len, encV, byteRows_one, byteRows_cons, fb2, fb3, fb4]
      (repeat (with_reducible refine And.intro ?_ ?_; (first | omega | (intro _; omega) | decide | (exact nfB) | (intro _; exact nfB) | (intro hg; refine ⟨hg, ?_⟩; omega) | (simp; done) | (simp; omega) | (intro hg; simp at hg; done) | (intro hg; simp at hg ⊢; first | omega | exact hg | grind))))
      refine hK6 _ _ ?_
      try clear hK6 K6
      refine AWp.cond _ rfl (fun hc1 => ?_) (fun hc1 => ?_)
      · skip
        try simp only [decide_eq_true_eq, decide_eq_false_iff_not, Bool.not_eq_true', Bool.not_eq_false', Bool.and_eq_true, Bool.or_eq_true, Bool.and_eq_false_iff, Bool.or_eq_false_iff, Int.not_lt, Int.not_le, beq_iff_eq, beq_eq_false_iff_ne, ne_eq, Bool.not_eq_true, Bool.not_eq_false] at hc1
        refine AWp.rs fun K7 hK7 => ?_
        try simp only [go_sem, icast, byteRows_len, encV, byteRows_one, byteRows_cons, fb2, fb3, fb4]
        (repeat (with_reducible refine And.intro ?_ ?_; (first | omega | (intro _; omega) | decide | (exact nfB) | (intro _; exact nfB) | (intro hg; refine ⟨hg, ?_⟩; omega) | (simp; done) | (simp; omega) | (intro hg; simp at hg; done) | (intro hg; simp at hg ⊢; first | omega | exact hg | grind))))
        refine hK7 _ _ ?_
        try clear hK7 K7
        refine AWp.mask [false, true, true] rfl ?_
        simp only [go_sem]
        refine AWp.ret ?_
        try simp only [go_sem, icast, byteRows_len, encV, byteRows_one, byteRows_cons, fb2, fb3, fb4]
        rw [ap_2 ok hc1]; simp [LeA, LeL, LeD, byteRows]
      · skip
        try simp only [decide_eq_true_eq, decide_eq_false_iff_not, Bool.not_eq_true', Bool.not_eq_false', Bool.and_eq_true, Bool.or_eq_true, Bool.and_eq_false_iff, Bool.or_eq_false_iff, Int.not_lt, Int.not_le, beq_iff_eq, beq_eq_false_iff_ne, ne_eq, Bool.not_eq_true, Bool.not_eq_false] at hc1
        have hbl := batS_len hc1
        rw [encT_0 hc1] at *
        have hw3 := wide3 ((batS u l).length : Int) (by omega)
        refine AWp.skip ?_
        refine thenQ_n ?_
        refine hK5 _ _ ?_
        try clear hK5 K5
        refine AWp.rs fun K8 hK8 => ?_
        try simp only [go_sem, icast, byteRows_len, encV, byteRows_one, byteRows_cons, fb2, fb3, fb4]
        (repeat (with_reducible refine And.intro ?_ ?_; (first | omega | (intro _; omega) | decide | (exact nfB) | (intro _; exact nfB) | (intro hg; refine ⟨hg, ?_⟩; omega) | (simp; done) | (simp; omega) | (intro hg; simp at hg; done) | (intro hg; simp at hg ⊢; first | omega | exact hg | grind))))
        refine hK8 _ _ ?_
        try clear hK8 K8
        refine AWp.mask [true, true, true, false, true] rfl ?_
        simp only [go_sem]
        refine AWp.rs fun K9 hK9 => ?_
        try simp only [go_sem, icast, byteRows_len, encV, byteRows_one, byteRows_cons, fb2, fb3, fb4]
        (repeat (with_reducible refine And.intro ?_ ?_; (first | omega | (intro _; omega) | decide | (exact nfB) | (intro _; exact nfB) | (intro hg; refine ⟨hg, ?_⟩; omega) | (simp; done) | (simp; omega) | (intro hg; simp at hg; done) | (intro hg; simp at hg ⊢; first | omega | exact hg | grind))))
        refine DW.pcr rfl rfl rfl rfl (joined_c T [ub (((batS u l).length : Int).tdiv 65536), ub ((((batS u l).length : Int).tdiv 256).tmod 256), ub (((batS u l).length : Int).tmod 256)] (batS u l) (by simp only [List.length_cons, List.length_nil]; omega)) rfl rfl ?_
        try simp only [go_sem, icast, byteRows_len, encV, byteRows_one, byteRows_cons, fb2, fb3, fb4]
        (repeat (with_reducible refine And.intro ?_ ?_; (first | omega | (intro _; omega) | decide | (exact nfB) | (intro _; exact nfB) | (intro hg; refine ⟨hg, ?_⟩; omega) | (simp; done) | (simp; omega) | (intro hg; simp at hg; done) | (intro hg; simp at hg ⊢; first | omega | exact hg | grind))))
        refine hK9 _ _ ?_
        try clear hK9 K9
        refine AWp.mask [true, true, true] rfl ?_
        simp only [go_sem]
        refine AWp.seq fun K10 hK10 => ?_
        have hw4 : [ub (((batS u l).length : Int).tdiv 65536), ub ((((batS u l).length : Int).tdiv 256).tmod 256), ub (((batS u l).length : Int).tmod 256)] ++ batS u l = wideR ((batS u l).length : Int) 3 ++ batS u l := by rw [hw3]
        simp only [List.cons_append, List.nil_append] at hw4
        rw [hw4]
        have hwl : (wideR ((batS u l).length : Int) 3 ++ batS u l).length = 3 + (batS u l).length := by rw [List.length_append, wideR_len]
        · skip
          refine AWp.rs fun K11 hK11 => ?_
          try simp only [go_sem, icast, byteRows_len, encV, byteRows_one, byteRows_cons, fb2, fb3, fb4, hwl]
          (repeat (with_reducible refine And.intro ?_ ?_; (first | omega | (intro _; omega) | decide | (exact nfB) | (intro _; exact nfB) | (intro hg; refine ⟨hg, ?_⟩; omega) | (simp; done) | (simp; omega) | (intro hg; simp at hg; done) | (intro hg; simp at hg ⊢; first | omega | exact hg | grind))))
          refine hK11 _ _ ?_
          try clear hK11 K11
          refine AWp.mask [true, true, true, false, false, false, false, false, false, true] rfl ?_
          simp only [go_sem]
          refine AWp.cond _ rfl (fun hc2 => ?_) (fun hc2 => ?_)
          · skip
            try simp only [decide_eq_true_eq, decide_eq_false_iff_not, Bool.not_eq_true', Bool.not_eq_false', Bool.and_eq_true, Bool.or_eq_true, Bool.and_eq_false_iff, Bool.or_eq_false_iff, Int.not_lt, Int.not_le, beq_iff_eq, beq_eq_false_iff_ne, ne_eq, Bool.not_eq_true, Bool.not_eq_false] at hc2
            refine AWp.rs fun K12 hK12 => ?_
            try simp only [go_sem, icast, byteRows_len, encV, byteRows_one, byteRows_cons, fb2, fb3, fb4, hwl]
            (repeat (with_reducible refine And.intro ?_ ?_; (first | omega | (intro _; omega) | decide | (exact nfB) | (intro _; exact nfB) | (intro hg; refine ⟨hg, ?_⟩; omega) | (simp; done) | (simp; omega) | (intro hg; simp at hg; done) | (intro hg; simp at hg ⊢; first | omega | exact hg | grind))))
            refine hK12 _ _ ?_
            try clear hK12 K12
            refine AWp.mask [false, true, true] rfl ?_
            simp only [go_sem]
            refine AWp.ret ?_
            try simp only [go_sem, icast, byteRows_len, encV, byteRows_one, byteRows_cons, fb2, fb3, fb4, hwl]
            rw [ap_3 ok hc1 (by omega)]; simp [LeA, LeL, LeD, byteRows]
          · skip
            try simp only [decide_eq_true_eq, decide_eq_false_iff_not, Bool.not_eq_true', Bool.not_eq_false', Bool.and_eq_true, Bool.or_eq_true, Bool.and_eq_false_iff, Bool.or_eq_false_iff, Int.not_lt, Int.not_le, beq_iff_eq, beq_eq_false_iff_ne, ne_eq, Bool.not_eq_true, Bool.not_eq_false] at hc2
            refine AWp.skip ?_
            refine thenQ_n ?_
            refine hK10 _ _ ?_
            try clear hK10 K10
            refine AWp.ds true [0, 1, 2, 3, 4, 5, 6, 7, 8] rfl (by kernel_rfl) fun K13 hK13 => ?_
            try simp only [go_sem, icast, byteRows_len, encV, byteRows_one, byteRows_cons, fb2, fb3, fb4, hwl]
            (repeat (with_reducible refine And.intro ?_ ?_; (first | omega | (intro _; omega) | decide | (exact nfB) | (intro _; exact nfB) | (intro hg; refine ⟨hg, ?_⟩; omega) | (simp; done) | (simp; omega) | (intro hg; simp at hg; done) | (intro hg; simp at hg ⊢; first | omega | exact hg | grind))))
            refine DW.pcr rfl rfl rfl rfl (joined_c T d (wideR ((batS u l).length : Int) 3 ++ batS u l) (by rw [hwl]; omega)) rfl rfl ?_
            try simp only [go_sem, icast, byteRows_len, encV, byteRows_one, byteRows_cons, fb2, fb3, fb4, hwl]
            (repeat (with_reducible refine And.intro ?_ ?_; (first | omega | (intro _; omega) | decide | (exact nfB) | (intro _; exact nfB) | (intro hg; refine ⟨hg, ?_⟩; omega) | (simp; done) | (simp; omega) | (intro hg; simp at hg; done) | (intro hg; simp at hg ⊢; first | omega | exact hg | grind))))
            refine hK13 _ _ ?_
            try clear hK13 K13
            refine AWp.mask [false, true, true] rfl ?_
            simp only [go_sem]
            refine AWp.ret ?_
            try simp only [go_sem, icast, byteRows_len, encV, byteRows_one, byteRows_cons, fb2, fb3, fb4, hwl]
            rw [ap_4 ok hc1 (by omega)]; simp [LeA, LeL, LeD, byteRows]
  · skip
    have no := ok
    refine AWp.rs fun K3 hK3 => ?_
    try simp only [go_sem, icast, byteRows_len, encV, byteRows_one, byteRows_cons, fb2, fb3, fb4]
    (repeat (with_reducible refine And.intro ?_ ?_; (first | omega | (intro _; omega) | decide | (exact nfB) | (intro _; exact nfB) | (intro hg; refine ⟨hg, ?_⟩; omega) | (simp; done) | (simp; omega) | (intro hg; simp at hg; done) | (intro hg; simp at hg ⊢; first | omega | exact hg | grind))))
    refine DW.pcr rfl rfl rfl rfl (TapeMay_no T d sy no) rfl rfl ?_
    try simp only [go_sem, icast, byteRows_len, encV, byteRows_one, byteRows_cons, fb2, fb3, fb4]
    (repeat (with_reducible refine And.intro ?_ ?_; (first | omega | (intro _; omega) | decide | (exact nfB) | (intro _; exact nfB) | (intro hg; refine ⟨hg, ?_⟩; omega) | (simp; done) | (simp; omega) | (intro hg; simp at hg; done) | (intro hg; simp at hg ⊢; first | omega | exact hg | grind))))
    refine hK3 _ _ ?_
    try clear hK3 K3
    refine AWp.mask [false, false, true, true, true, false, false, false, true] rfl ?_
    simp only [go_sem]
    refine AWp.cond _ rfl (fun hc0 => ?_) (fun hc0 => ?_)
    · skip
      try simp only [decide_eq_true_eq, decide_eq_false_iff_not, Bool.not_eq_true', Bool.not_eq_false', Bool.and_eq_true, Bool.or_eq_true, Bool.and_eq_false_iff, Bool.or_eq_false_iff, Int.not_lt, Int.not_le, beq_iff_eq, beq_eq_false_iff_ne, ne_eq, Bool.not_eq_true, Bool.not_eq_false] at hc0
      refine AWp.rs fun K14 hK14 => ?_
      try simp only [go_sem, icast, byteRows_len, encV, byteRows_one, byteRows_cons, fb2, fb3, fb4]
      (repeat (with_reducible refine And.intro ?_ ?_; (first | omega | (intro _; omega) | decide | (exact nfB) | (intro _; exact nfB) | (intro hg; refine ⟨hg, ?_⟩; omega) | (simp; done) | (simp; omega) | (intro hg; simp at hg; done) | (intro hg; simp at hg ⊢; first | omega | exact hg | grind))))
      refine hK14 _ _ ?_
      try clear hK14 K14
      refine AWp.mask [false, false, true, true] rfl ?_
      simp only [go_sem]
      refine AWp.ret ?_
      try simp only [go_sem, icast, byteRows_len, encV, byteRows_one, byteRows_cons, fb2, fb3, fb4]
      rw [ap_1 ok]; simp [LeA, LeL, LeD, byteRows]
    · skip
      exact absurd hc0 (by simp)
set_option maxRecDepth 4000 in
set_option maxHeartbeats 1000000 in
theorem tapes_c (T : Tbl) (d : Tx) (sy : Int) (hd : d.length ≤ 140737488355328) : PC Tryd.prog T 19 [.agg [.d (.slc 1 (byteRows (d))), .d (.int .i64 sy)]] (.agg [.d (.slc 1 (byteRows (d))), .d (.int .i64 sy)]) := by
  refine ⟨Tryd.call19, PCall.enterS Tryd.func19 rfl Tryd.ntmps19 rfl fun hb => ?_⟩
  simp only [go_sem, Tryd.results19]
  refine AWp.rs fun K1 hK1 => ?_
  try simp only [go_sem]
  (repeat (with_reducible refine And.intro ?_ ?_; (first | omega | (intro _; omega) | decide | (exact nfB) | (intro _; exact nfB) | (intro hg; refine ⟨hg, ?_⟩; omega) | (simp; done) | (simp; omega) | (intro hg; simp at hg; done) | (intro hg; simp at hg ⊢; first | omega | exact hg | grind))))
  intro b1
  first | intro fb1 | have fb1 := True.intro
  try simp only [freshL] at fb1
  try simp only [go_sem, fb1]
  (repeat (with_reducible refine And.intro ?_ ?_; (first | omega | (intro _; omega) | decide | (exact nfB) | (intro _; exact nfB) | (intro hg; refine ⟨hg, ?_⟩; omega) | (simp; done) | (simp; omega) | (intro hg; simp at hg; done) | (intro hg; simp at hg ⊢; first | omega | exact hg | grind))))
  intro b2
  first | intro fb2 | have fb2 := True.intro
  try simp only [freshL] at fb2
  try simp only [go_sem, fb1, fb2]
  (repeat (with_reducible refine And.intro ?_ ?_; (first | omega | (intro _; omega) | decide | (exact nfB) | (intro _; exact nfB) | (intro hg; refine ⟨hg, ?_⟩; omega) | (simp; done) | (simp; omega) | (intro hg; simp at hg; done) | (intro hg; simp at hg ⊢; first | omega | exact hg | grind))))
  refine hK1 _ _ ?_
  try clear hK1 K1
  refine AWp.dsC [] AgK.nil rfl [0, 1, 3] 4 [2] [5, 6] rfl (by kernel_rfl) rfl fun K2 hK2 => ?_
  try simp only [go_sem, fb1, fb2]
  (repeat (with_reducible refine And.intro ?_ ?_; (first | omega | (intro _; omega) | decide | (exact nfB) | (intro _; exact nfB) | (intro hg; refine ⟨hg, ?_⟩; omega) | (simp; done) | (simp; omega) | (intro hg; simp at hg; done) | (intro hg; simp at hg ⊢; first | omega | exact hg | grind))))
  try with_reducible refine Exists.intro _ (And.intro (by first | rfl | (simp only [go_sem, fb1, fb2]; first | rfl | exact ⟨by omega, rfl⟩)) ?_)
  try simp only [go_sem, fb1, fb2]
  refine DW.appNil rfl rfl rfl rfl (show slI Tryd.prog 33 = some (5, 1, 1) by simp only [go_sem]) rfl rfl (by first | exact .inl rfl | exact .inr rfl) (by (try simp only [go_sem, byteRows_len]); omega) (by (try simp only [go_sem, byteRows_len]); omega) fun t1 ft1 => ?_
  try simp only [freshT] at ft1
  try simp only [go_sem, fb1, fb2, ft1]
  (repeat (with_reducible refine And.intro ?_ ?_; (first | omega | (intro _; omega) | decide | (exact nfB) | (intro _; exact nfB) | (intro hg; refine ⟨hg, ?_⟩; omega) | (simp; done) | (simp; omega) | (intro hg; simp at hg; done) | (intro hg; simp at hg ⊢; first | omega | exact hg | grind))))
  try with_reducible refine And.intro (by first | rfl | (simp only [go_sem, fb1, fb2, ft1]; first | done | rfl | exact ⟨by omega, rfl⟩)) ?_
  try simp only [go_sem, fb1, fb2, ft1]
  (repeat (with_reducible refine And.intro ?_ ?_; (first | omega | (intro _; omega) | decide | (exact nfB) | (intro _; exact nfB) | (intro hg; refine ⟨hg, ?_⟩; omega) | (simp; done) | (simp; omega) | (intro hg; simp at hg; done) | (intro hg; simp at hg ⊢; first | omega | exact hg | grind))))
  refine hK2 _ _ ?_
  try clear hK2 K2
  refine AWp.mask [false, false, true] rfl ?_
  simp only [go_sem]
  refine AWp.ret ?_
  try simp only [go_sem, fb1, fb2, ft1]
  try simp [LeA, LeL, LeD]
set_option maxRecDepth 4000 in
set_option maxHeartbeats 1000000 in
theorem sameTape_c (T : Tbl) (d : Tx) (sy : Int) : PC Tryd.prog T 23 [.agg [.d (.slc 1 (byteRows (d))), .d (.int .i64 sy)], .agg [.d (.slc 1 (byteRows (d))), .d (.int .i64 sy)]] (.d (.bool true)) := by
  refine ⟨Tryd.call23, PCall.enterS Tryd.func23 rfl Tryd.ntmps23 rfl fun hb => ?_⟩
  simp only [go_sem, Tryd.results23]
  refine AWp.rs fun K1 hK1 => ?_
  try simp only [go_sem, decide_true, bytesOf_byteRows]
  (repeat (with_reducible refine And.intro ?_ ?_; (first | omega | (intro _; omega) | decide | (exact nfB) | (intro _; exact nfB) | (intro hg; refine ⟨hg, ?_⟩; omega) | (simp; done) | (simp; omega) | (intro hg; simp at hg; done) | (intro hg; simp at hg ⊢; first | omega | exact hg | grind))))
  intro b2
  first | intro fb2 | have fb2 := True.intro
  try simp only [freshL] at fb2
  try simp only [go_sem, decide_true, bytesOf_byteRows, fb2]
  (repeat (with_reducible refine And.intro ?_ ?_; (first | omega | (intro _; omega) | decide | (exact nfB) | (intro _; exact nfB) | (intro hg; refine ⟨hg, ?_⟩; omega) | (simp; done) | (simp; omega) | (intro hg; simp at hg; done) | (intro hg; simp at hg ⊢; first | omega | exact hg | grind))))
  intro b3
  first | intro fb3 | have fb3 := True.intro
  try simp only [freshL] at fb3
  try simp only [go_sem, decide_true, bytesOf_byteRows, fb2, fb3]
  (repeat (with_reducible refine And.intro ?_ ?_; (first | omega | (intro _; omega) | decide | (exact nfB) | (intro _; exact nfB) | (intro hg; refine ⟨hg, ?_⟩; omega) | (simp; done) | (simp; omega) | (intro hg; simp at hg; done) | (intro hg; simp at hg ⊢; first | omega | exact hg | grind))))
  refine hK1 _ _ ?_
  try clear hK1 K1
  refine AWp.rs fun K2 hK2 => ?_
  try simp only [go_sem, decide_true, bytesOf_byteRows, fb2, fb3]
  (repeat (with_reducible refine And.intro ?_ ?_; (first | omega | (intro _; omega) | decide | (exact nfB) | (intro _; exact nfB) | (intro hg; refine ⟨hg, ?_⟩; omega) | (simp; done) | (simp; omega) | (intro hg; simp at hg; done) | (intro hg; simp at hg ⊢; first | omega | exact hg | grind))))
  refine hK2 _ _ ?_
  try clear hK2 K2
  refine AWp.mask [false, false, false, false, true] rfl ?_
  simp only [go_sem]
  refine AWp.ret ?_
  try simp only [go_sem, decide_true, bytesOf_byteRows, fb2, fb3]
  try simp [LeA, LeL, LeD]
set_option maxRecDepth 4000 in
set_option maxHeartbeats 1000000 in
theorem bookAppends_c (T : Tbl) (hL : LibT T) (d : Tx) (sy u : Int) (l : List Ent) (oke : ∀ x ∈ l, EntOk x) (hd : d.length ≤ 140737488355328) (hz : l.length * 72 ≤ 140737488355328) : PC Tryd.prog T 4 [.agg [.d (.slc 1 (byteRows (d))), .d (.int .i64 sy)], .agg [.d (.int .i64 u), .d (.slc 6 (entsD l))]] (.d (.bool true)) := by
  refine ⟨Tryd.call4, PCall.enterS Tryd.func4 rfl Tryd.ntmps4 rfl fun hb => ?_⟩
  simp only [go_sem, Tryd.results4]
  refine AWp.rs fun K1 hK1 => ?_
  try simp only [go_sem, decide_true, Bool.true_and]
  (repeat (with_reducible refine And.intro ?_ ?_; (first | omega | (intro _; omega) | decide | (exact nfB) | (intro _; exact nfB) | (intro hg; refine ⟨hg, ?_⟩; omega) | (simp; done) | (simp; omega) | (intro hg; simp at hg; done) | (intro hg; simp at hg ⊢; first | omega | exact hg | grind))))
  intro b2
  first | intro fb2 | have fb2 := True.intro
  try simp only [freshL] at fb2
  try simp only [go_sem, decide_true, Bool.true_and, fb2]
  (repeat (with_reducible refine And.intro ?_ ?_; (first | omega | (intro _; omega) | decide | (exact nfB) | (intro _; exact nfB) | (intro hg; refine ⟨hg, ?_⟩; omega) | (simp; done) | (simp; omega) | (intro hg; simp at hg; done) | (intro hg; simp at hg ⊢; first | omega | exact hg | grind))))
  intro b3
  first | intro fb3 | have fb3 := True.intro
  try simp only [freshL] at fb3
  try simp only [go_sem, decide_true, Bool.true_and, fb2, fb3]
  (repeat (with_reducible refine And.intro ?_ ?_; (first | omega | (intro _; omega) | decide | (exact nfB) | (intro _; exact nfB) | (intro hg; refine ⟨hg, ?_⟩; omega) | (simp; done) | (simp; omega) | (intro hg; simp at hg; done) | (intro hg; simp at hg ⊢; first | omega | exact hg | grind))))
  refine hK1 _ _ ?_
  try clear hK1 K1
  refine AWp.rs fun K2 hK2 => ?_
  try simp only [go_sem, decide_true, Bool.true_and, fb2, fb3]
  (repeat (with_reducible refine And.intro ?_ ?_; (first | omega | (intro _; omega) | decide | (exact nfB) | (intro _; exact nfB) | (intro hg; refine ⟨hg, ?_⟩; omega) | (simp; done) | (simp; omega) | (intro hg; simp at hg; done) | (intro hg; simp at hg ⊢; first | omega | exact hg | grind))))
  refine DW.pcr rfl rfl rfl rfl (tapes_c T d sy hd) rfl rfl ?_
  try simp only [go_sem, decide_true, Bool.true_and, fb2, fb3]
  (repeat (with_reducible refine And.intro ?_ ?_; (first | omega | (intro _; omega) | decide | (exact nfB) | (intro _; exact nfB) | (intro hg; refine ⟨hg, ?_⟩; omega) | (simp; done) | (simp; omega) | (intro hg; simp at hg; done) | (intro hg; simp at hg ⊢; first | omega | exact hg | grind))))
  intro b5
  first | intro fb5 | have fb5 := True.intro
  try simp only [freshL] at fb5
  try simp only [go_sem, decide_true, Bool.true_and, fb2, fb3, fb5]
  (repeat (with_reducible refine And.intro ?_ ?_; (first | omega | (intro _; omega) | decide | (exact nfB) | (intro _; exact nfB) | (intro hg; refine ⟨hg, ?_⟩; omega) | (simp; done) | (simp; omega) | (intro hg; simp at hg; done) | (intro hg; simp at hg ⊢; first | omega | exact hg | grind))))
  refine hK2 _ _ ?_
  try clear hK2 K2
  refine AWp.mask [false, false, true, true, false, true] rfl ?_
  simp only [go_sem]
  refine AWp.iceP 5 [[.slc 1 (byteRows d), .int .i64 sy]] rfl rfl (Nat.zero_lt_succ _) (by decide) (by simp) ?_
  simp only [go_sem]
  refine AWp.iceP 3 [[.int .i64 u, .slc 6 (entsD l)]] rfl rfl (Nat.zero_lt_succ _) (by decide) (by simp) ?_
  simp only [go_sem]
  · skip
    refine AWp.dsF true [] [0, 1] [2, 3, 4, 5, 6, 7, 8, 9] rfl (by kernel_rfl) fun K3 hK3 => ?_
    try simp only [go_sem, decide_true, Bool.true_and, fb2, fb3, fb5]
    (repeat (with_reducible refine And.intro ?_ ?_; (first | omega | (intro _; omega) | decide | (exact nfB) | (intro _; exact nfB) | (intro hg; refine ⟨hg, ?_⟩; omega) | (simp; done) | (simp; omega) | (intro hg; simp at hg; done) | (intro hg; simp at hg ⊢; first | omega | exact hg | grind))))
    try with_reducible refine Exists.intro _ (And.intro (fun _ => (by first | rfl | (simp only [go_sem, decide_true, Bool.true_and, fb2, fb3, fb5]; first | done | rfl | exact ⟨by omega, rfl⟩))) ?_)
    try simp only [go_sem, decide_true, Bool.true_and, fb2, fb3, fb5]
    (repeat (with_reducible refine And.intro ?_ ?_; (first | omega | (intro _; omega) | decide | (exact nfB) | (intro _; exact nfB) | (intro hg; refine ⟨hg, ?_⟩; omega) | (simp; done) | (simp; omega) | (intro hg; simp at hg; done) | (intro hg; simp at hg ⊢; first | omega | exact hg | grind))))
    try with_reducible refine Exists.intro _ (And.intro (fun _ => (by first | rfl | (simp only [go_sem, decide_true, Bool.true_and, fb2, fb3, fb5]; first | done | rfl | exact ⟨by omega, rfl⟩))) ?_)
    try simp only [go_sem, decide_true, Bool.true_and, fb2, fb3, fb5]
    (repeat (with_reducible refine And.intro ?_ ?_; (first | omega | (intro _; omega) | decide | (exact nfB) | (intro _; exact nfB) | (intro hg; refine ⟨hg, ?_⟩; omega) | (simp; done) | (simp; omega) | (intro hg; simp at hg; done) | (intro hg; simp at hg ⊢; first | omega | exact hg | grind))))
    refine DW.pcr rfl rfl rfl rfl (batch_c T u l hz) rfl rfl ?_
    try simp only [go_sem, decide_true, Bool.true_and, fb2, fb3, fb5]
    (repeat (with_reducible refine And.intro ?_ ?_; (first | omega | (intro _; omega) | decide | (exact nfB) | (intro _; exact nfB) | (intro hg; refine ⟨hg, ?_⟩; omega) | (simp; done) | (simp; omega) | (intro hg; simp at hg; done) | (intro hg; simp at hg ⊢; first | omega | exact hg | grind))))
    refine DW.pcr rfl rfl rfl rfl (Append_c T hL d sy u l oke) rfl rfl ?_
    try simp only [go_sem, decide_true, Bool.true_and, fb2, fb3, fb5]
    (repeat (with_reducible refine And.intro ?_ ?_; (first | omega | (intro _; omega) | decide | (exact nfB) | (intro _; exact nfB) | (intro hg; refine ⟨hg, ?_⟩; omega) | (simp; done) | (simp; omega) | (intro hg; simp at hg; done) | (intro hg; simp at hg ⊢; first | omega | exact hg | grind))))
    intro b4
    first | intro fb4 | have fb4 := True.intro
    try simp only [freshL] at fb4
    try simp only [go_sem, decide_true, Bool.true_and, fb2, fb3, fb5, fb4]
    (repeat (with_reducible refine And.intro ?_ ?_; (first | omega | (intro _; omega) | decide | (exact nfB) | (intro _; exact nfB) | (intro hg; refine ⟨hg, ?_⟩; omega) | (simp; done) | (simp; omega) | (intro hg; simp at hg; done) | (intro hg; simp at hg ⊢; first | omega | exact hg | grind))))
    refine hK3 _ _ ?_
    try clear hK3 K3
    refine AWp.mask [true, true, true, true, true] rfl ?_
    simp only [go_sem]
    refine AWp.rs fun K5 hK5 => ?_
    try simp only [go_sem, decide_true, Bool.true_and, fb2, fb3, fb5, fb4]
    (repeat (with_reducible refine And.intro ?_ ?_; (first | omega | (intro _; omega) | decide | (exact nfB) | (intro _; exact nfB) | (intro hg; refine ⟨hg, ?_⟩; omega) | (simp; done) | (simp; omega) | (intro hg; simp at hg; done) | (intro hg; simp at hg ⊢; first | omega | exact hg | grind))))
    refine DW.pcr rfl rfl rfl rfl (TapeAppended_c T hL d sy u l oke) rfl rfl ?_
    try simp only [go_sem, decide_true, Bool.true_and, fb2, fb3, fb5, fb4]
    (repeat (with_reducible refine And.intro ?_ ?_; (first | omega | (intro _; omega) | decide | (exact nfB) | (intro _; exact nfB) | (intro hg; refine ⟨hg, ?_⟩; omega) | (simp; done) | (simp; omega) | (intro hg; simp at hg; done) | (intro hg; simp at hg ⊢; first | omega | exact hg | grind))))
    intro b6
    first | intro fb6 | have fb6 := True.intro
    try simp only [freshL] at fb6
    try simp only [go_sem, decide_true, Bool.true_and, fb2, fb3, fb5, fb4, fb6]
    (repeat (with_reducible refine And.intro ?_ ?_; (first | omega | (intro _; omega) | decide | (exact nfB) | (intro _; exact nfB) | (intro hg; refine ⟨hg, ?_⟩; omega) | (simp; done) | (simp; omega) | (intro hg; simp at hg; done) | (intro hg; simp at hg ⊢; first | omega | exact hg | grind))))
    refine hK5 _ _ ?_
    try clear hK5 K5
    refine AWp.mask [true, false, true, true, true, true, true] rfl ?_
    simp only [go_sem]
    refine AWp.rs fun K7 hK7 => ?_
    try simp only [go_sem, decide_true, Bool.true_and, fb2, fb3, fb5, fb4, fb6]
    (repeat (with_reducible refine And.intro ?_ ?_; (first | omega | (intro _; omega) | decide | (exact nfB) | (intro _; exact nfB) | (intro hg; refine ⟨hg, ?_⟩; omega) | (simp; done) | (simp; omega) | (intro hg; simp at hg; done) | (intro hg; simp at hg ⊢; first | omega | exact hg | grind))))
    refine DW.pcgr rfl rfl rfl rfl rfl (fun hg => sameTape_c T _ _) (fun hg => by (try simp only [go_sem, decide_true, Bool.true_and, fb2, fb3, fb5, fb4, fb6]) <;> first | exact hg | (exfalso; simp at hg; done) | (simpa using hg) | grind) rfl rfl ?_
    try simp only [go_sem, decide_true, Bool.true_and, fb2, fb3, fb5, fb4, fb6]
    (repeat (with_reducible refine And.intro ?_ ?_; (first | omega | (intro _; omega) | decide | (exact nfB) | (intro _; exact nfB) | (intro hg; refine ⟨hg, ?_⟩; omega) | (simp; done) | (simp; omega) | (intro hg; simp at hg; done) | (intro hg; simp at hg ⊢; first | omega | exact hg | grind))))
    refine DW.pcgr rfl rfl rfl rfl rfl (fun hg => sameTape_c T _ _) (fun hg => by (try simp only [go_sem, decide_true, Bool.true_and, fb2, fb3, fb5, fb4, fb6]) <;> first | exact hg | (exfalso; simp at hg; done) | (simpa using hg) | grind) rfl rfl ?_
    try simp only [go_sem, decide_true, Bool.true_and, fb2, fb3, fb5, fb4, fb6]
    (repeat (with_reducible refine And.intro ?_ ?_; (first | omega | (intro _; omega) | decide | (exact nfB) | (intro _; exact nfB) | (intro hg; refine ⟨hg, ?_⟩; omega) | (simp; done) | (simp; omega) | (intro hg; simp at hg; done) | (intro hg; simp at hg ⊢; first | omega | exact hg | grind))))
    refine hK7 _ _ ?_
    try clear hK7 K7
    refine AWp.mask [false, true] rfl ?_
    simp only [go_sem]
    refine AWp.ret ?_
    try simp only [go_sem, decide_true, Bool.true_and, fb2, fb3, fb5, fb4, fb6]
    try simp [LeA, LeL, LeD]
end Go.Proofs.YthhfbolhlbgbgaaDoor

namespace Go.Proofs.YthhfbolhlbgbgaaDoor
open Go.RowKit Go.ChangeShapes Go.WideShapes Go.ChangeAt
set_option linter.unusedSimpArgs false
set_option linter.unusedVariables false
open Go.ChangeShapes Go.WideShapes Go.ChangeAt
set_option maxRecDepth 20000
theorem bookAppends_run {H : Type} {enc : TypeId × Value → H} (W : World) (base : Nat) (v0 v1 : Value) (d0 : DataW H) (p0 : List MemPlace) (d1 : DataW H) (p1 : List MemPlace)
    (k0 : Value.okWide Tryd.prog W .any base 35 v0) (h0 : DataW.Trod enc Tryd.prog W 0 (fun _ => true) true 35 v0 d0 p0) (k1 : Value.okWide Tryd.prog W .any base 37 v1) (h1 : DataW.Trod enc Tryd.prog W 0 (fun _ => true) true 37 v1 d1 p1) (s0 : Small Tryd.prog 35 d0) (s1 : Small Tryd.prog 37 d1)
    (hL : laidMetH Tryd.prog Rows.bookAppendsRow.laid W) (hsh : W.ShapedOpen Tryd.prog) :
    Calls Tryd.prog 4 #[v0, v1] W fun e W' => e = .returned (.bool true) ∧ Below W.heap.size W W' := by
  obtain ⟨cs, rfl, hsz⟩ := okWide_struct Tryd.underlying35 k0
  obtain ⟨cs1, rfl, hsz1⟩ := okWide_struct Tryd.underlying37 k1
  obtain ⟨⟨d, sy⟩, hx, ds, z, rfl, hz, hr⟩ := DecR.open_ dec_tape h0
  obtain ⟨⟨u, l⟩, hx1, ds1, z1, rfl, hz1, hr1⟩ := DecR.open_ dec_bat h1
  have hx : VDs (frzW W) [.slc 1 (byteRows d), .int .i64 sy] cs.toList := hx
  have hx1 : VDs (frzW W) [.int .i64 u, .slc 6 (entsD l)] cs1.toList := hx1
  obtain ⟨_, _, hv⟩ := hx1.2 1 _ rfl
  obtain ⟨_, m, hm⟩ := Lib0.open_ hsh
  have hlen1 := rl_len (n := 72) hr1 Tryd.underlying23 (Small.part Tryd.underlying37 s1 (j := 1) rfl hz1) (by kernel_rfl)
  have hlen := rl_len (n := 1) hr Tryd.underlying33 (Small.part Tryd.underlying35 s0 (j := 0) rfl hz) (by kernel_rfl)
  dsimp only at hlen hlen1
  refine law_calls (T := libT m) (bookAppends_c (libT m) (libT_lib m) d sy u l (ents_ok hv) (by omega) hlen1) (libT_ok hm) ⟨rfl, fun i a ha => ?_⟩
  match i, ha with
  | 0, ha =>
    simp at ha
    subst ha
    exact ⟨_, rfl, hx.agg (G := gh0 W (frzW W))⟩
  | 1, ha =>
    simp at ha
    subst ha
    exact ⟨_, rfl, hx1.agg (G := gh0 W (frzW W))⟩
  | i + 2, ha => simp at ha
end Go.Proofs.YthhfbolhlbgbgaaDoor

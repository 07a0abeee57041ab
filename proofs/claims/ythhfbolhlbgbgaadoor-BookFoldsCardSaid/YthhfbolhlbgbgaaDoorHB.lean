/- Texts that the laws rest on, packed. -/
import Derived.Test.YthhfbolhlbgbgaaDoorHA
import Derived.Test.YthhfbolhlbgbgaaDoorGC
import Derived.Test.YthhfbolhlbgbgaaDoorGN
namespace Go.Proofs.YthhfbolhlbgbgaaDoor
set_option linter.unusedSimpArgs false
set_option linter.unusedVariables false
def FlS (l : List BM) : Prop := ∀ y ∈ l, FlOk y.b.mails ∧ ∀ m ∈ y.b.mails, m.text.length ≤ 2000
theorem mObjs_set0 : ∀ {l : List BM} {i : Nat} {x y : BM} (F : List (Nat × Ob)), l[i]? = some x → x.c = 0 → y.c = 0 → mObjs (l.set i y) F = mObjs l F
  | z :: l, 0, x, y, F, h, h1, h2 => by simp at h; subst h; simp [mObjs, h1, h2, mO_nil]
  | z :: l, i + 1, x, y, F, h, h1, h2 => by
    have h : l[i]? = some x := by simpa using h
    simp only [List.set_cons_succ, mObjs, mObjs_set0 F h h1 h2]
theorem bmRows_keep {l : List BM} {i : Nat} {y z : BM} (h : l[i]? = some y) (e : bmRow z = bmRow y) : bmRows (l.set i z) = bmRows l := by
  rw [← bmRows_set, e]
  have h1 : (bmRows l)[i]? = some (bmRow y) := by simp [bmRows, h]
  obtain ⟨h2, h3⟩ := List.getElem?_eq_some_iff.1 h1
  rw [← h3, List.set_getElem_self]
theorem bmRows_snoc (l : List BM) (y : BM) : bmRows l ++ [bmRow y] = bmRows (l ++ [y]) := by simp [bmRows]
theorem mObjs_snoc (l : List BM) (y : BM) (F : List (Nat × Ob)) (h : y.c = 0) : mObjs (l ++ [y]) F = mObjs l F := by rw [mObjs_app]; simp [mObjs, h, mO_nil]
theorem bmB_snoc (l : List BM) (y : BM) : bmB (l ++ [y]) = bmB l ++ [y.b] := by simp [bmB]
theorem bmRows_full (l : List BM) : ∀ r ∈ bmRows l, r.length = 3 := fun r hr => by
  simp only [bmRows, List.mem_map] at hr
  obtain ⟨x, _, rfl⟩ := hr
  rfl
set_option maxRecDepth 4000 in
set_option maxHeartbeats 1000000 in
theorem Delete0_c (T : Tbl) (F : List (Nat × Ob)) (L : List Nat) : AC Tryd.prog T 101 [.full 3 [], .fn 102 []] (⟨F, L⟩) (fun r h => r = .ret (.full 3 []) ∧ h = ⟨F, L⟩) := by
  refine ⟨Tryd.call101, ACalls.enterS Tryd.func101 rfl Tryd.ntmps101 rfl fun hb => ?_⟩
  simp only [go_sem, Tryd.results101]
  refine AWp.rs fun K1 hK1 => ?_
  try simp only [go_sem]
  refine hK1 _ _ ?_
  try clear hK1 K1
  refine AWp.rs fun K2 hK2 => ?_
  try simp only [go_sem]
  refine DW.acp [] [] rfl rfl rfl rfl (by (try simp only [go_sem]); rfl) rfl (IndexMail0_c T _ _ _ _) ?_
  rintro _ _ ⟨rfl, rfl⟩
  try simp only [go_sem]
  refine hK2 _ _ ?_
  try clear hK2 K2
  refine AWp.mask [true, true, false, true] rfl ?_
  simp only [go_sem]
  refine AWp.seq fun K3 hK3 => ?_
  refine AWp.rs fun K4 hK4 => ?_
  try simp only [go_sem]
  refine hK4 _ _ ?_
  try clear hK4 K4
  refine AWp.cond _ rfl (fun hc0 => ?_) (fun hc0 => ?_)
  · skip
    try simp only [decide_eq_true_eq] at hc0
    refine AWp.rs fun K5 hK5 => ?_
    try simp only [go_sem]
    refine hK5 _ _ ?_
    try clear hK5 K5
    refine AWp.mask [false, false, true] rfl ?_
    simp only [go_sem]
    refine AWp.ret ?_
    try simp only [thenQ]
    apply endW_r [] [] [] [] (by (try simp only [go_sem]); rfl)
    · exact ⟨rfl, rfl⟩
    · simp [LeA]
  · skip
    exact absurd hc0 (by simp)
set_option maxRecDepth 4000 in
set_option maxHeartbeats 1000000 in
theorem apM_c (T : Tbl) (s bb cb u : Nat) (sp : List Ent) (l : List BM) (x : Ent) (F : List (Nat × Ob)) (L : List Nat) (hcb : 0 < cb) (hu : freshT u L) (sb : BmS l) (hfl : FlS l) (hsp : sp.length ≤ 1000) (htx : x.text.length ≤ 2000) : AC Tryd.prog T 68 [.ptr s 2 0 0, .agg (entA x)] (⟨(s, ⟨2, 1, [[.arr bb 3 l.length cb, .own u 6 (entsD sp)]]⟩) :: (bb, ⟨3, cb, bmRows l⟩) :: mObjs l F, u :: L⟩) (fun r h => ∃ (l2 : List BM) (sp2 : List Ent) (e : Int) (bb2 cb2 u2 : Nat), 0 < cb2 ∧ freshT u2 L ∧ apS ⟨bmB l, sp⟩ x = (⟨bmB l2, sp2⟩, e) ∧ r = .ret (.d (.int .i64 e)) ∧ h = ⟨(s, ⟨2, 1, [[.arr bb2 3 l2.length cb2, .own u2 6 (entsD sp2)]]⟩) :: (bb2, ⟨3, cb2, bmRows l2⟩) :: mObjs l2 F, u2 :: L⟩) := by
  refine ⟨Tryd.call68, ACalls.enterS Tryd.func68 rfl Tryd.ntmps68 rfl fun hb => ?_⟩
  refine AWp.nd fun hnd => ?_
  have hne := nd2 hnd
  clear hnd
  have sb1 := sb.h1
  simp only [go_sem, Tryd.results68]
  refine AWp.rs fun K1 hK1 => ?_
  try simp only [go_sem, if_true]
  intro b3
  first | intro fb3 | have fb3 := True.intro
  try simp only [freshL] at fb3
  refine hK1 _ _ ?_
  try clear hK1 K1
  refine AWp.ds false [0, 1, 2, 3, 4, 5, 6, 7] rfl (by kernel_rfl) fun K2 hK2 => ?_
  try simp only [go_sem, bne_r hne, if_true, fb3]
  refine DW.acp [bb] [] rfl rfl rfl rfl (by (try simp only [go_sem, bne_l hne, if_true, fb3]); rfl) rfl (findM_c T l x.box bb cb _ _ sb.h1) ?_
  rintro _ _ ⟨rfl, rfl⟩
  try simp only [go_sem, if_true]
  refine hK2 _ _ ?_
  try clear hK2 K2
  refine AWp.mask [true, false, true, false, true] rfl ?_
  simp only [go_sem]
  refine AWp.seq fun K3 hK3 => ?_
  refine AWp.block ?_
  refine AWp.pm (rot3 ..) ?_
  · skip
    refine AWp.rs fun K4 hK4 => ?_
    try simp only [go_sem, if_true, fb3]
    refine hK4 _ _ ?_
    try clear hK4 K4
    refine AWp.cond _ rfl (fun hc0 => ?_) (fun hc0 => ?_)
    · skip
      try simp only [decide_eq_true_eq] at hc0
      refine AWp.seq fun K5 hK5 => ?_
      refine AWp.rs fun K6 hK6 => ?_
      try simp only [go_sem, bne_r hne, if_true, fb3]
      refine hK6 _ _ ?_
      try clear hK6 K6
      refine AWp.mask [true, true, false, false, false, false, false, false, false, false, false, false, true] rfl ?_
      simp only [go_sem]
      refine AWp.cond _ rfl (fun hc1 => ?_) (fun hc1 => ?_)
      · skip
        try simp only [decide_eq_true_eq] at hc1
        refine AWp.rs fun K7 hK7 => ?_
        try simp only [go_sem, if_true]
        refine hK7 _ _ ?_
        try clear hK7 K7
        refine AWp.ret ?_
        try simp only [thenQ, blkQ]
        apply endW_r [b3] [] [] [] (by (try simp only [go_sem, if_true]); rfl)
        · exact ⟨l, sp, _, bb, cb, u, hcb, hu, ap_sp5 hc0 (by show sp.length = 20; omega), rfl, by simp [go_sem]⟩
        · simp [LeA, LeD]
      · skip
        try simp only [decide_eq_false_iff_not] at hc1
        refine AWp.skip ?_
        refine thenQ_n ?_
        refine hK5 _ _ ?_
        try clear hK5 K5
        refine AWp.ds true [0, 1, 2, 3, 4, 5, 6, 7, 8, 9, 10] rfl (by kernel_rfl) fun K8 hK8 => ?_
        try simp only [go_sem, bne_r hne, if_true, fb3]
        refine DW.app rfl rfl rfl rfl (show slI Tryd.prog 23 = some (56, 6, 72) by simp only [go_sem]) rfl rfl (by simp only [go_sem]) (by first | exact .inl rfl | exact .inr rfl) (by (try simp only [go_sem, entsD_len]); omega) (by (try simp only [go_sem, entsD_len]); omega) fun t1 ft1 => ?_
        try simp only [freshT] at ft1
        try simp only [go_sem, bne_r hne, if_true, fb3]
        refine hK8 _ _ ?_
        try clear hK8 K8
        refine AWp.mask [] rfl ?_
        simp only [go_sem]
        refine AWp.rs fun K9 hK9 => ?_
        try simp only [go_sem]
        refine hK9 _ _ ?_
        try clear hK9 K9
        refine AWp.ret ?_
        try simp only [thenQ, blkQ]
        apply endW_r [b3] [] [] [] (by (try simp only [go_sem, if_true]); rfl)
        · exact ⟨l, sp ++ [x], _, bb, cb, t1, hcb, by first | exact ft1 | exact ft1.2, ap_sp0 hc0 (by show ¬ sp.length = 20; omega), rfl, by simp [go_sem, entsD, entD]⟩
        · simp [LeA, LeD]
    · skip
      try simp only [decide_eq_false_iff_not] at hc0
      refine AWp.rs fun K10 hK10 => ?_
      try simp only [go_sem, if_true, fb3]
      refine hK10 _ _ ?_
      try clear hK10 K10
      refine AWp.mask [true, true, true, false, false, false, false, true] rfl ?_
      simp only [go_sem]
      refine AWp.cond _ rfl (fun hc2 => ?_) (fun hc2 => ?_)
      · skip
        try simp only [decide_eq_true_eq, Bool.and_eq_true] at hc2
        refine AWp.rs fun K11 hK11 => ?_
        try simp only [go_sem, if_true]
        refine hK11 _ _ ?_
        try clear hK11 K11
        refine AWp.mask [false, false, true] rfl ?_
        simp only [go_sem]
        refine AWp.ret ?_
        try simp only [thenQ, blkQ]
        apply endW_r [b3] [] [] [] (by (try simp only [go_sem, if_true]); rfl)
        · exact ⟨l, sp, _, bb, cb, u, hcb, hu, ap_c10 hc2.1 hc2.2, rfl, by simp [go_sem]⟩
        · simp [LeA, LeD]
      · skip
        try simp only [decide_eq_false_iff_not, Bool.and_eq_false_iff, Int.not_le] at hc2
        refine AWp.rs fun K12 hK12 => ?_
        try simp only [go_sem, if_true, fb3]
        refine hK12 _ _ ?_
        try clear hK12 K12
        refine AWp.mask [true, true, true, false, true] rfl ?_
        simp only [go_sem]
        refine AWp.cond _ rfl (fun hc3 => ?_) (fun hc3 => ?_)
        · skip
          try simp only [decide_eq_true_eq] at hc3
          refine AWp.seq fun K13 hK13 => ?_
          refine AWp.rs fun K14 hK14 => ?_
          try simp only [go_sem, bne_r hne, if_true, fb3]
          refine hK14 _ _ ?_
          try clear hK14 K14
          refine AWp.mask [true, true, false, false, false, false, false, false, false, true] rfl ?_
          simp only [go_sem]
          refine AWp.cond _ rfl (fun hc4 => ?_) (fun hc4 => ?_)
          · skip
            try simp only [decide_eq_true_eq] at hc4
            refine AWp.rs fun K15 hK15 => ?_
            try simp only [go_sem, if_true]
            refine hK15 _ _ ?_
            try clear hK15 K15
            refine AWp.ret ?_
            try simp only [thenQ, blkQ]
            apply endW_r [b3] [] [] [] (by (try simp only [go_sem, if_true]); rfl)
            · exact ⟨l, sp, _, bb, cb, u, hcb, hu, ap_c5 hc3 (hc2.elim (fun h => absurd hc3 h) id) (by show (bmB l).length = 5; simp [bmB]; omega), rfl, by simp [go_sem]⟩
            · simp [LeA, LeD]
          · skip
            try simp only [decide_eq_false_iff_not] at hc4
            refine AWp.skip ?_
            refine thenQ_n ?_
            refine hK13 _ _ ?_
            try clear hK13 K13
            refine AWp.dsC [] AgK.nil rfl [0, 1, 2, 3, 5, 6, 7] 4 [8] [9, 10, 11, 12] rfl (by kernel_rfl) rfl fun K16 hK16 => ?_
            try simp only [go_sem, bne_r hne, if_true, fb3]
            try with_reducible refine Exists.intro _ (And.intro (by first | rfl | (simp only [go_sem, icast, bmRows_len, entA, sNat, bne_l hne, bne_r hne, Array.isEmpty_empty, if_true, fb3]; first | rfl | exact ⟨by omega, rfl⟩)) ?_)
            refine DW.bsM (he := by first | rfl | kernel_rfl) (rows := [[.d (.str x.box), .d (.int .i64 1), .nils]]) rfl rfl (show slI Tryd.prog 22 = some (92, 3, 48) by simp only [go_sem]) (by rfl) rfl (by decide) (Nat.zero_lt_succ _) fun bn fbn => ?_
            try simp only [freshL] at fbn
            try simp only [go_sem, bne_r hne, if_true, fb3, fbn]
            try with_reducible refine And.intro (by first | rfl | (simp only [go_sem, icast, bmRows_len, entA, sNat, bne_l hne, bne_r hne, Array.isEmpty_empty, if_true, fb3, fbn]; first | done | rfl | exact ⟨by omega, rfl⟩)) ?_
            refine DW.leHe rfl (LeH.pm (List.perm_middle (l₁ := [_, _, _]))) ?_
            refine DW.appMM (b0 := bb) (c0 := cb) (rows := bmRows l) (b1 := bn) (ob1 := ⟨3, 1, [[.d (.str x.box), .d (.int .i64 1), .nils]]⟩) rfl rfl (Eq.trans (b := .arr bb 3 l.length cb) rfl (by rw [mA_pos hcb, bmRows_len])) (by rw [mO_pos hcb]) (fun h => absurd h (by omega)) rfl (by simp [getO]) rfl rfl (by simp) (show slI Tryd.prog 22 = some (92, 3, 48) by simp only [go_sem]) (by first | (simp only [go_sem]; done) | rfl) rfl (bmRows_full l) rfl (Nat.zero_lt_succ _) (by simp only [bmRows_len, List.length_cons, List.length_nil]; omega) (by simp only [bmRows_len, List.length_cons, List.length_nil]; omega) fun bm cm hcm fbm => ?_
            simp only [List.cons_append, List.nil_append, freshL] at fbm ⊢
            try simp only [go_sem, bmRows_len, if_true, fb3, fbn, fbm]
            refine hK16 _ _ ?_
            try clear hK16 K16
            refine AWp.mask [] rfl ?_
            simp only [go_sem]
            refine AWp.nilCell (b := bm) (i := l.length) (j := 2) (k := 3) (ob := ⟨3, cm, bmRows l ++ [[.d (.str x.box), .d (.int .i64 1), .nils]]⟩) (r := [.d (.str x.box), .d (.int .i64 1), .nils]) (by simp [getO]) (by simp [bmRows]) rfl ?_
            refine AWp.leH (LeH.ord [bn] [] [s, bm] [] _) ?_
            · skip
              refine AWp.rs fun K17 hK17 => ?_
              try simp only [go_sem, if_true, fb3, fbn, fbm]
              refine hK17 _ _ ?_
              try clear hK17 K17
              refine AWp.ret ?_
              try simp only [thenQ, blkQ]
              apply endW_r [b3] [] [] [] (by (try simp only [go_sem, if_true]); rfl)
              · refine ⟨l ++ [(⟨⟨x.box, 1, []⟩, 0, 0, fun _ => rfl⟩ : BM)], sp, 0, bm, cm, u, hcm, hu, ?_, rfl, ?_⟩
                · rw [bmB_snoc, ap_c0 hc3 (hc2.elim (fun h => absurd hc3 h) id) (by show ¬ (bmB l).length = 5; simp [bmB]; omega)]
                · rw [← bmRows_snoc, mObjs_snoc _ _ _ rfl]; simp [go_sem, fb3, fbm, bmRow, mA_nil, bmRows]
              · simp [LeA, LeD]
        · skip
          try simp only [decide_eq_false_iff_not] at hc3
          refine AWp.rs fun K18 hK18 => ?_
          try simp only [go_sem, if_true]
          refine hK18 _ _ ?_
          try clear hK18 K18
          refine AWp.cond _ rfl (fun hc5 => ?_) (fun hc5 => ?_)
          · skip
            try simp only [decide_eq_true_eq] at hc5
            refine AWp.rs fun K19 hK19 => ?_
            try simp only [go_sem, if_true]
            refine hK19 _ _ ?_
            try clear hK19 K19
            refine AWp.mask [false, false, true] rfl ?_
            simp only [go_sem]
            refine AWp.ret ?_
            try simp only [thenQ, blkQ]
            apply endW_r [b3] [] [] [] (by (try simp only [go_sem, if_true]); rfl)
            · exact ⟨l, sp, _, bb, cb, u, hcb, hu, ap_n7 hc0 hc3 hc5, rfl, by simp [go_sem]⟩
            · simp [LeA, LeD]
          · skip
            try simp only [decide_eq_false_iff_not, Int.not_lt] at hc5
            obtain ⟨i, hfi⟩ := Int.eq_ofNat_of_zero_le hc5
            have hil : i < l.length := by simpa [bmB] using findI_lt hfi
            have hxb : l[i]? = some (l[i]'hil) := List.getElem?_eq_getElem hil
            have hbx := bmB_at hxb
            have hml := sb.h2 _ (List.getElem_mem hil)
            obtain ⟨hfx, hfx2⟩ := hfl _ (List.getElem_mem hil)
            refine AWp.rs fun K20 hK20 => ?_
            try simp only [go_sem, if_true, fb3, hfi]
            refine hK20 _ _ ?_
            try clear hK20 K20
            refine AWp.mask [true, true, true, false, false, false, false, true] rfl ?_
            simp only [go_sem]
            refine AWp.cond _ rfl (fun hc6 => ?_) (fun hc6 => ?_)
            · skip
              try simp only [decide_eq_true_eq] at hc6
              refine AWp.rs fun K21 hK21 => ?_
              try simp only [go_sem, if_true, fb3]
              refine DW.acl rfl rfl rfl rfl (LeH.pm (permB [_, _] _ _ _).symm) (by first | rfl | (simp only [go_sem, icast, bmRows_len, entA, sNat, bne_l hne, bne_r hne, Array.isEmpty_empty, if_true, fb3, hfi, bmRows_get hxb]; done) | (simp only [go_sem, icast, bmRows_len, entA, sNat, bne_l hne, bne_r hne, Array.isEmpty_empty, if_true, fb3, hfi, bmRows_get hxb]; rfl)) (addM_c T s bb cb u sp l i (l[i]'hil) x.flags x.text _ _ hxb sb htx) ?_
              rintro _ _ ⟨l2, hl2, hl3, rfl, rfl⟩
              try simp only [go_sem, if_true]
              refine hK21 _ _ ?_
              try clear hK21 K21
              refine AWp.mask [false, false, true] rfl ?_
              simp only [go_sem]
              refine AWp.pm (permB [_, _] _ _ _) ?_
              simp only [List.cons_append, List.nil_append]
              refine AWp.ret ?_
              try simp only [thenQ, blkQ]
              apply endW_r [b3] [] [] [] (by (try simp only [go_sem, if_true]); rfl)
              · exact ⟨l2, sp, _, bb, cb, u, hcb, hu, by rw [ap_b hc0 hc3 hfi, ab_add hc6, ← hl2], rfl, by simp [go_sem, hl3]⟩
              · simp [LeA, LeD]
            · skip
              try simp only [decide_eq_false_iff_not] at hc6
              refine AWp.rs fun K22 hK22 => ?_
              try simp only [go_sem, if_true, fb3]
              refine hK22 _ _ ?_
              try clear hK22 K22
              refine AWp.mask [true, true, true, false, true] rfl ?_
              simp only [go_sem]
              refine AWp.cond _ rfl (fun hc7 => ?_) (fun hc7 => ?_)
              · skip
                try simp only [decide_eq_true_eq] at hc7
                rcases Nat.eq_zero_or_pos (l[i]'hil).c with hz | hz
                · skip
                  have hm0 := (l[i]'hil).ok hz
                  refine AWp.dsL0 [0, 1, 2, 4, 5, 6, 7, 8, 9, 10, 11, 12] 3 13 [14, 15, 16] rfl (by kernel_rfl) rfl rfl fun K23 hK23 => ?_
                  try simp only [go_sem, sNat, bne_l hne, bne_r hne, if_true, fb3, bmRows_get hxb, hz, mA_nil]
                  (repeat (with_reducible refine And.intro ?_ ?_; omega))
                  try with_reducible refine Exists.intro _ (And.intro (by first | rfl | (simp only [go_sem, icast, bmRows_len, entA, sNat, bne_l hne, bne_r hne, Array.isEmpty_empty, if_true, fb3, hfi, bmRows_get hxb, hz, mA_nil]; first | rfl | exact ⟨by omega, rfl⟩)) ?_)
                  refine DW.acp [] [] rfl rfl rfl rfl (by (try simp only [go_sem]); rfl) rfl (Delete0_c T _ _) ?_
                  rintro _ _ ⟨rfl, rfl⟩
                  try simp only [go_sem, sNat, bne_l hne, bne_r hne, if_true, fb3, bmRows_get hxb, hz, mA_nil]
                  (repeat (with_reducible refine And.intro ?_ ?_; omega))
                  try with_reducible refine And.intro (by first | rfl | (simp only [go_sem, icast, bmRows_len, entA, sNat, bne_l hne, bne_r hne, Array.isEmpty_empty, if_true, fb3, hfi, bmRows_get hxb, hz, mA_nil]; first | done | rfl | exact ⟨by omega, rfl⟩)) ?_
                  refine hK23 _ _ ?_
                  try clear hK23 K23
                  refine AWp.mask [] rfl ?_
                  simp only [go_sem]
                  refine AWp.rs fun K24 hK24 => ?_
                  try simp only [go_sem]
                  refine hK24 _ _ ?_
                  try clear hK24 K24
                  refine AWp.ret ?_
                  try simp only [thenQ, blkQ]
                  apply endW_r [b3] [] [] [] (by (try simp only [go_sem, if_true]); rfl)
                  · refine ⟨l.set i (⟨⟨(l[i]'hil).b.name, (l[i]'hil).b.next, keepM (l[i]'hil).b.mails⟩, (l[i]'hil).m, (l[i]'hil).c, fun h => by show keepM _ = []; rw [hm0]; rfl⟩ : BM), sp, 0, bb, cb, u, hcb, hu, ?_, rfl, ?_⟩
                    · rw [ap_b hc0 hc3 hfi, ab_del hc7 hbx, bmB_set]
                    · rw [mObjs_set0 (y := (⟨⟨(l[i]'hil).b.name, (l[i]'hil).b.next, keepM (l[i]'hil).b.mails⟩, (l[i]'hil).m, (l[i]'hil).c, fun h => by show keepM _ = []; rw [hm0]; rfl⟩ : BM)) F hxb hz hz, ← bmRows_set]; simp [go_sem, hz, mA_nil, bmRow]
                  · simp [LeA, LeD]
                · skip
                  refine AWp.pm (frontX [_, _, _] hxb hz) ?_
                  simp only [List.cons_append, List.nil_append]
                  refine AWp.nd fun hnd => ?_
                  obtain ⟨hq1, hq2, hq3⟩ := nd4 hnd
                  clear hnd
                  refine AWp.dsL0 [0, 1, 2, 4, 5, 6, 7, 8, 9, 10, 11, 12] 3 13 [14, 15, 16] rfl (by kernel_rfl) rfl rfl fun K23 hK23 => ?_
                  try simp only [go_sem, sNat, bne_l hne, bne_r hne, if_true, fb3, bmRows_get hxb, mA_pos hz, bne_l hq2, bne_l hq3]
                  (repeat (with_reducible refine And.intro ?_ ?_; omega))
                  try with_reducible refine Exists.intro _ (And.intro (by first | rfl | (simp only [go_sem, icast, bmRows_len, entA, sNat, bne_l hne, bne_r hne, Array.isEmpty_empty, if_true, fb3, hfi, bmRows_get hxb, mA_pos hz, bne_l hq1, bne_r hq1, bne_l hq2, bne_r hq2, bne_l hq3, bne_r hq3]; first | rfl | exact ⟨by omega, rfl⟩)) ?_)
                  refine DW.acp [] [] rfl rfl rfl rfl (by (try simp only [go_sem]); rfl) rfl (DeleteM_c T (l[i]'hil).b.mails (l[i]'hil).m (l[i]'hil).c _ _ hml hfx) ?_
                  rintro _ _ ⟨rfl, rfl⟩
                  try simp only [go_sem, sNat, bne_l hne, bne_r hne, if_true, fb3, bmRows_get hxb, mA_pos hz, bne_l hq2, bne_l hq3]
                  (repeat (with_reducible refine And.intro ?_ ?_; omega))
                  try with_reducible refine And.intro (by first | rfl | (simp only [go_sem, icast, bmRows_len, entA, sNat, bne_l hne, bne_r hne, Array.isEmpty_empty, if_true, fb3, hfi, bmRows_get hxb, mA_pos hz, bne_l hq1, bne_r hq1, bne_l hq2, bne_r hq2, bne_l hq3, bne_r hq3]; first | done | rfl | exact ⟨by omega, rfl⟩)) ?_
                  refine hK23 _ _ ?_
                  try clear hK23 K23
                  refine AWp.mask [] rfl ?_
                  simp only [go_sem]
                  refine AWp.leH (LeH.of_eq (h' := ⟨mOb (⟨⟨(l[i]'hil).b.name, (l[i]'hil).b.next, keepM (l[i]'hil).b.mails⟩, (l[i]'hil).m, (l[i]'hil).c, fun h => absurd h (by omega)⟩ : BM) :: (b3, ⟨6, 1, [entA x]⟩) :: (s, ⟨2, 1, [[.arr bb 3 l.length cb, .own u 6 (entsD sp)]]⟩) :: (bb, ⟨3, cb, bmRows (l.set i (⟨⟨(l[i]'hil).b.name, (l[i]'hil).b.next, keepM (l[i]'hil).b.mails⟩, (l[i]'hil).m, (l[i]'hil).c, fun h => absurd h (by omega)⟩ : BM))⟩) :: mObjs (l.eraseIdx i) F, u :: L⟩) ?_) ?_
                  · rw [← bmRows_set]; simp [mOb, bmRow, mA_pos hz, entA]
                  refine AWp.pm (backX [_, _, _] (⟨⟨(l[i]'hil).b.name, (l[i]'hil).b.next, keepM (l[i]'hil).b.mails⟩, (l[i]'hil).m, (l[i]'hil).c, fun h => absurd h (by omega)⟩ : BM) hil hz) ?_
                  simp only [List.cons_append, List.nil_append]
                  · skip
                    refine AWp.rs fun K25 hK25 => ?_
                    try simp only [go_sem, entA]
                    refine hK25 _ _ ?_
                    try clear hK25 K25
                    refine AWp.ret ?_
                    try simp only [thenQ, blkQ]
                    apply endW_r [b3] [] [] [] (by (try simp only [go_sem, if_true]); rfl)
                    · refine ⟨l.set i (⟨⟨(l[i]'hil).b.name, (l[i]'hil).b.next, keepM (l[i]'hil).b.mails⟩, (l[i]'hil).m, (l[i]'hil).c, fun h => absurd h (by omega)⟩ : BM), sp, 0, bb, cb, u, hcb, hu, ?_, rfl, ?_⟩
                      · rw [ap_b hc0 hc3 hfi, ab_del hc7 hbx, bmB_set]
                      · simp [go_sem]
                    · simp [LeA, LeD]
              · skip
                try simp only [decide_eq_false_iff_not] at hc7
                refine AWp.skip ?_
                refine blkQ_n (thenQ_n ?_)
                refine hK3 _ _ ?_
                try clear hK3 K3
                rcases Nat.eq_zero_or_pos (l[i]'hil).c with hz | hz
                · skip
                  have hm0 := (l[i]'hil).ok hz
                  refine AWp.rs fun K26 hK26 => ?_
                  try simp only [go_sem, sNat, bne_l hne, bne_r hne, Array.isEmpty_empty, if_true, fb3, bmRows_get hxb, hz, mA_nil]
                  (repeat (with_reducible refine And.intro ?_ ?_; omega))
                  refine DW.acp [] [] rfl rfl rfl rfl (by (try simp only [go_sem]); rfl) rfl (IndexMail0_c T _ _ _ _) ?_
                  rintro _ _ ⟨rfl, rfl⟩
                  try simp only [go_sem, if_true]
                  refine hK26 _ _ ?_
                  try clear hK26 K26
                  refine AWp.mask [true, true, true, true] rfl ?_
                  simp only [go_sem]
                  refine AWp.seq fun K27 hK27 => ?_
                  refine AWp.rs fun K28 hK28 => ?_
                  try simp only [go_sem, if_true]
                  refine hK28 _ _ ?_
                  try clear hK28 K28
                  refine AWp.cond _ rfl (fun hc8 => ?_) (fun hc8 => ?_)
                  · skip
                    try simp only [decide_eq_true_eq] at hc8
                    refine AWp.rs fun K29 hK29 => ?_
                    try simp only [go_sem, if_true]
                    refine hK29 _ _ ?_
                    try clear hK29 K29
                    refine AWp.mask [false, false, true] rfl ?_
                    simp only [go_sem]
                    refine AWp.ret ?_
                    try simp only [thenQ]
                    apply endW_r [b3] [] [] [] (by (try simp only [go_sem, if_true]); rfl)
                    · exact ⟨l, sp, _, bb, cb, u, hcb, hu, by rw [ap_b hc0 hc3 hfi, ab_7 hc6 hc7 hbx (by rw [hm0]; simp [idxI])], rfl, by simp [go_sem]⟩
                    · simp [LeA, LeD]
                  · skip
                    exact absurd hc8 (by simp)
                · skip
                  refine AWp.pm (frontX [_, _, _] hxb hz) ?_
                  simp only [List.cons_append, List.nil_append]
                  refine AWp.nd fun hnd => ?_
                  obtain ⟨hq1, hq2, hq3⟩ := nd4 hnd
                  clear hnd
                  refine AWp.rs fun K26 hK26 => ?_
                  try simp only [go_sem, sNat, bne_l hne, bne_r hne, Array.isEmpty_empty, if_true, fb3, bmRows_get hxb, mA_pos hz, bne_l hq2, bne_l hq3]
                  (repeat (with_reducible refine And.intro ?_ ?_; omega))
                  refine DW.acp [b3, (l[i]'hil).m] [] rfl rfl rfl rfl (by (try simp only [go_sem, entA, if_true, fb3, bne_l hq1, bne_r hq1, bne_r hq2, bne_r hq3]); rfl) rfl (IndexUid_c T x b3 (l[i]'hil).b.mails (l[i]'hil).m (l[i]'hil).c _ _ hml) ?_
                  rintro _ _ ⟨rfl, rfl⟩
                  try simp only [go_sem, entA, if_true]
                  refine hK26 _ _ ?_
                  try clear hK26 K26
                  refine AWp.mask [true, true, true, true] rfl ?_
                  simp only [go_sem]
                  refine AWp.seq fun K30 hK30 => ?_
                  refine AWp.rs fun K31 hK31 => ?_
                  try simp only [go_sem, if_true]
                  refine hK31 _ _ ?_
                  try clear hK31 K31
                  refine AWp.cond _ rfl (fun hc8 => ?_) (fun hc8 => ?_)
                  · skip
                    try simp only [decide_eq_true_eq] at hc8
                    refine AWp.pm ((List.Perm.swap ..).trans (backX' [_, _, _] hxb hz)) ?_
                    simp only [List.cons_append, List.nil_append]
                    · skip
                      refine AWp.rs fun K32 hK32 => ?_
                      try simp only [go_sem, if_true]
                      refine hK32 _ _ ?_
                      try clear hK32 K32
                      refine AWp.mask [false, false, true] rfl ?_
                      simp only [go_sem]
                      refine AWp.ret ?_
                      try simp only [thenQ]
                      apply endW_r [b3] [] [] [] (by (try simp only [go_sem, if_true]); rfl)
                      · exact ⟨l, sp, _, bb, cb, u, hcb, hu, by rw [ap_b hc0 hc3 hfi, ab_7 hc6 hc7 hbx hc8], rfl, by simp [go_sem]⟩
                      · simp [LeA, LeD]
                  · skip
                    try simp only [decide_eq_false_iff_not, Int.not_lt] at hc8
                    obtain ⟨k, hki⟩ := Int.eq_ofNat_of_zero_le hc8
                    have hkl := idxI_lt hki
                    have hmk : (l[i]'hil).b.mails[k]? = some ((l[i]'hil).b.mails[k]'hkl) := List.getElem?_eq_getElem hkl
                    refine AWp.skip ?_
                    refine thenQ_n ?_
                    refine hK30 _ _ ?_
                    try clear hK30 K30
                    refine AWp.seq fun K33 hK33 => ?_
                    refine AWp.rs fun K34 hK34 => ?_
                    try simp only [go_sem, if_true, fb3, bne_l hq1, hki]
                    refine hK34 _ _ ?_
                    try clear hK34 K34
                    refine AWp.mask [true, true, true, true, false, false, false, false, true] rfl ?_
                    simp only [go_sem]
                    refine AWp.cond _ rfl (fun hc9 => ?_) (fun hc9 => ?_)
                    · skip
                      try simp only [decide_eq_true_eq] at hc9
                      refine AWp.ds true [0, 1, 2, 3, 4, 5, 6, 7, 8, 9, 10, 11, 12, 13] rfl (by kernel_rfl) fun K35 hK35 => ?_
                      try simp only [go_sem, sNat, bne_l hne, bne_r hne, if_true, fb3, bmRows_get hxb, mA_pos hz, bne_l hq1, bne_r hq1, bne_l hq2, bne_r hq2, bne_l hq3, bne_r hq3, mrow_g hmk]
                      (repeat (with_reducible refine And.intro ?_ ?_; omega))
                      refine hK35 _ _ ?_
                      try clear hK35 K35
                      refine AWp.mask [] rfl ?_
                      simp only [go_sem]
                      refine AWp.leH (LeH.of_eq (h' := ⟨(b3, ⟨6, 1, [entA x]⟩) :: mOb (⟨setFl (l[i]'hil).b k x.flags, (l[i]'hil).m, (l[i]'hil).c, fun h => absurd h (by omega)⟩ : BM) :: (s, ⟨2, 1, [[.arr bb 3 l.length cb, .own u 6 (entsD sp)]]⟩) :: (bb, ⟨3, cb, bmRows (l.set i (⟨setFl (l[i]'hil).b k x.flags, (l[i]'hil).m, (l[i]'hil).c, fun h => absurd h (by omega)⟩ : BM))⟩) :: mObjs (l.eraseIdx i) F, u :: L⟩) ?_) ?_
                      · rw [bmRows_keep hxb (by simp [bmRow, setFl, hmk])]; simp [mOb, setFl, hmk, mailsD, dRows, mailD, List.map_set, entA]
                      refine AWp.pm ((List.Perm.swap ..).trans (backX [_, _, _] (⟨setFl (l[i]'hil).b k x.flags, (l[i]'hil).m, (l[i]'hil).c, fun h => absurd h (by omega)⟩ : BM) hil hz)) ?_
                      simp only [List.cons_append, List.nil_append]
                      · skip
                        refine AWp.rs fun K36 hK36 => ?_
                        try simp only [go_sem, entA]
                        refine hK36 _ _ ?_
                        try clear hK36 K36
                        refine AWp.ret ?_
                        try simp only [thenQ]
                        apply endW_r [b3] [] [] [] (by (try simp only [go_sem, if_true]); rfl)
                        · refine ⟨l.set i (⟨setFl (l[i]'hil).b k x.flags, (l[i]'hil).m, (l[i]'hil).c, fun h => absurd h (by omega)⟩ : BM), sp, 0, bb, cb, u, hcb, hu, ?_, rfl, ?_⟩
                          · rw [ap_b hc0 hc3 hfi, ab_fl hc9 hbx hki, bmB_set]
                          · simp [go_sem]
                        · simp [LeA, LeD]
                    · skip
                      try simp only [decide_eq_false_iff_not] at hc9
                      refine AWp.skip ?_
                      refine thenQ_n ?_
                      refine hK33 _ _ ?_
                      try clear hK33 K33
                      refine AWp.ds false [0, 1, 2, 3, 4, 5, 6, 7] rfl (by kernel_rfl) fun K37 hK37 => ?_
                      try simp only [go_sem, bne_r hne, if_true, fb3, bne_l hq1, bne_l hq2]
                      refine DW.acp [bb] [] rfl rfl rfl rfl (by (try simp only [go_sem, bne_l hne, if_true, fb3, bne_l hq3]); rfl) rfl (findM_c T l x.dest bb cb _ _ sb.h1) ?_
                      rintro _ _ ⟨rfl, rfl⟩
                      try simp only [go_sem, if_true]
                      refine hK37 _ _ ?_
                      try clear hK37 K37
                      refine AWp.mask [true, false, true, true, true] rfl ?_
                      simp only [go_sem]
                      refine AWp.seq fun K38 hK38 => ?_
                      refine AWp.rs fun K39 hK39 => ?_
                      try simp only [go_sem, if_true]
                      refine hK39 _ _ ?_
                      try clear hK39 K39
                      refine AWp.cond _ rfl (fun hc10 => ?_) (fun hc10 => ?_)
                      · skip
                        try simp only [decide_eq_true_eq] at hc10
                        refine AWp.leH (LeH.ord [] [] [(l[i]'hil).m, b3, s, bb] [] _) ?_
                        simp only [go_sem, fb3, bne_l hne, bne_r hne, bne_l hq1, bne_r hq1, bne_l hq2, bne_r hq2, bne_l hq3, bne_r hq3]
                        refine AWp.pm (backX' [_, _, _] hxb hz) ?_
                        simp only [List.cons_append, List.nil_append]
                        · skip
                          refine AWp.rs fun K40 hK40 => ?_
                          try simp only [go_sem, if_true]
                          refine hK40 _ _ ?_
                          try clear hK40 K40
                          refine AWp.mask [false, true] rfl ?_
                          simp only [go_sem]
                          refine AWp.ret ?_
                          try simp only [thenQ]
                          apply endW_r [b3] [] [] [] (by (try simp only [go_sem, if_true]); rfl)
                          · exact ⟨l, sp, _, bb, cb, u, hcb, hu, by rw [ap_b hc0 hc3 hfi, ab_c7 hc6 hc7 hc9 hbx hki hc10], rfl, by simp [go_sem]⟩
                          · simp [LeA, LeD]
                      · skip
                        try simp only [decide_eq_false_iff_not, Int.not_lt] at hc10
                        obtain ⟨j, hfj⟩ := Int.eq_ofNat_of_zero_le hc10
                        have hjl : j < l.length := by simpa [bmB] using findI_lt hfj
                        have hxj : l[j]? = some (l[j]'hjl) := List.getElem?_eq_getElem hjl
                        refine AWp.skip ?_
                        refine thenQ_n ?_
                        refine hK38 _ _ ?_
                        try clear hK38 K38
                        refine AWp.rs fun K41 hK41 => ?_
                        try simp only [go_sem, sNat, bne_l hne, bne_r hne, if_true, fb3, bmRows_get hxb, mA_pos hz, bne_r hq1, bne_l hq2, bne_r hq2, bne_l hq3, bne_r hq3, mrow_g hmk, hfj]
                        (repeat (with_reducible refine And.intro ?_ ?_; omega))
                        intro b8
                        first | intro fb8 | have fb8 := True.intro
                        try simp only [freshL] at fb8
                        refine hK41 _ _ ?_
                        try clear hK41 K41
                        refine AWp.mask [true, false, false, true, true] rfl ?_
                        simp only [go_sem]
                        refine AWp.leH (LeH.ord [] [] [(l[i]'hil).m, b8, b3, s, bb] [] _) ?_
                        simp only [go_sem, fb3, bne_l hne, bne_r hne, bne_l hq1, bne_r hq1, bne_l hq2, bne_r hq2, bne_l hq3, bne_r hq3, fb8]
                        refine AWp.pm (backX' [_, _, _, _] hxb hz) ?_
                        simp only [List.cons_append, List.nil_append]
                        · skip
                          refine AWp.rs fun K42 hK42 => ?_
                          try simp only [go_sem, if_true, fb8]
                          refine DW.acl rfl rfl rfl rfl (LeH.pm (((permB [_, _] _ _ _).symm.cons _).trans (permB [_, _] _ _ _).symm)) (by first | rfl | (simp only [go_sem, icast, bmRows_len, entA, sNat, bne_l hne, bne_r hne, Array.isEmpty_empty, if_true, fb3, hfi, bmRows_get hxb, mA_pos hz, bne_l hq1, bne_r hq1, bne_l hq2, bne_r hq2, bne_l hq3, bne_r hq3, hki, mrow_g hmk, hfj, fb8]; done) | (simp only [go_sem, icast, bmRows_len, entA, sNat, bne_l hne, bne_r hne, Array.isEmpty_empty, if_true, fb3, hfi, bmRows_get hxb, mA_pos hz, bne_l hq1, bne_r hq1, bne_l hq2, bne_r hq2, bne_l hq3, bne_r hq3, hki, mrow_g hmk, hfj, fb8]; rfl)) (addM_c T s bb cb u sp l j (l[j]'hjl) ((l[i]'hil).b.mails[k]'hkl).flags ((l[i]'hil).b.mails[k]'hkl).text _ _ hxj sb (hfx2 _ (List.getElem_mem hkl))) ?_
                          rintro _ _ ⟨l2, hl2, hl3, rfl, rfl⟩
                          try simp only [go_sem, if_true]
                          refine hK42 _ _ ?_
                          try clear hK42 K42
                          refine AWp.mask [false, true] rfl ?_
                          simp only [go_sem]
                          refine AWp.pm ((permB [_, _] _ _ _).trans ((permB [_, _] _ _ _).cons _)) ?_
                          simp only [List.cons_append, List.nil_append]
                          refine AWp.ret ?_
                          apply endW_r [b3, b8] [] [] [] (by (try simp only [go_sem, if_true]); rfl)
                          · exact ⟨l2, sp, _, bb, cb, u, hcb, hu, by rw [ap_b hc0 hc3 hfi, ab_cp hc6 hc7 hc9 hbx hki hfj hmk, ← hl2], rfl, by simp [go_sem, hl3]⟩
                          · simp [LeA, LeD]
end Go.Proofs.YthhfbolhlbgbgaaDoor

namespace Go.Proofs.YthhfbolhlbgbgaaDoor
set_option linter.unusedSimpArgs false
set_option linter.unusedVariables false
theorem findI_nil (t : Tx) : findI ([] : List BoxS) t = -1 := rfl
set_option maxRecDepth 4000 in
set_option maxHeartbeats 1000000 in
theorem ap0_c (T : Tbl) (s u : Nat) (sp : List Ent) (x : Ent) (F : List (Nat × Ob)) (L : List Nat) (hu : freshT u L) (hsp : sp.length ≤ 1000) : AC Tryd.prog T 68 [.ptr s 2 0 0, .agg (entA x)] (⟨(s, ⟨2, 1, [[.full 3 [], .own u 6 (entsD sp)]]⟩) :: F, u :: L⟩) (fun r h => ∃ (l2 : List BM) (sp2 : List Ent) (e : Int) (bb2 cb2 u2 : Nat), (cb2 = 0 → l2 = []) ∧ freshT u2 L ∧ apS ⟨[], sp⟩ x = (⟨bmB l2, sp2⟩, e) ∧ r = .ret (.d (.int .i64 e)) ∧ h = ⟨(s, ⟨2, 1, [[mA bb2 3 cb2 l2.length, .own u2 6 (entsD sp2)]]⟩) :: mO bb2 3 cb2 (bmRows l2) (mObjs l2 F), u2 :: L⟩) := by
  refine ⟨Tryd.call68, ACalls.enterS Tryd.func68 rfl Tryd.ntmps68 rfl fun hb => ?_⟩
  simp only [go_sem, Tryd.results68]
  refine AWp.rs fun K1 hK1 => ?_
  try simp only [go_sem]
  intro b3
  first | intro fb3 | have fb3 := True.intro
  try simp only [freshL] at fb3
  refine hK1 _ _ ?_
  try clear hK1 K1
  refine AWp.ds false [0, 1, 2, 3, 4, 5, 6, 7] rfl (by kernel_rfl) fun K2 hK2 => ?_
  try simp only [go_sem, fb3]
  refine DW.acp [] [] rfl rfl rfl rfl (by (try simp only [go_sem]); rfl) rfl (find0_c T x.box _ _) ?_
  rintro _ _ ⟨rfl, rfl⟩
  try simp only [go_sem]
  refine hK2 _ _ ?_
  try clear hK2 K2
  refine AWp.mask [true, false, true, false, true] rfl ?_
  simp only [go_sem]
  refine AWp.seq fun K3 hK3 => ?_
  refine AWp.block ?_
  refine AWp.rs fun K4 hK4 => ?_
  try simp only [go_sem, fb3]
  refine hK4 _ _ ?_
  try clear hK4 K4
  refine AWp.cond _ rfl (fun hc0 => ?_) (fun hc0 => ?_)
  · skip
    try simp only [decide_eq_true_eq] at hc0
    refine AWp.seq fun K5 hK5 => ?_
    refine AWp.rs fun K6 hK6 => ?_
    try simp only [go_sem, fb3]
    refine hK6 _ _ ?_
    try clear hK6 K6
    refine AWp.mask [true, true, false, false, false, false, false, false, false, false, false, false, true] rfl ?_
    simp only [go_sem]
    refine AWp.cond _ rfl (fun hc1 => ?_) (fun hc1 => ?_)
    · skip
      try simp only [decide_eq_true_eq] at hc1
      refine AWp.rs fun K7 hK7 => ?_
      try simp only [go_sem]
      refine hK7 _ _ ?_
      try clear hK7 K7
      refine AWp.ret ?_
      try simp only [thenQ, blkQ]
      apply endW_r [b3] [] [] [] (by (try simp only [go_sem]); rfl)
      · exact ⟨[], sp, _, 0, 0, u, fun _ => rfl, hu, ap_sp5 hc0 (by show sp.length = 20; omega), rfl, by simp [go_sem, mA_nil, mO_nil, mObjs]⟩
      · simp [LeA, LeD]
    · skip
      try simp only [decide_eq_false_iff_not] at hc1
      refine AWp.skip ?_
      refine thenQ_n ?_
      refine hK5 _ _ ?_
      try clear hK5 K5
      refine AWp.ds true [0, 1, 2, 3, 4, 5, 6, 7, 8, 9, 10] rfl (by kernel_rfl) fun K8 hK8 => ?_
      try simp only [go_sem, fb3]
      refine DW.app rfl rfl rfl rfl (show slI Tryd.prog 23 = some (56, 6, 72) by simp only [go_sem]) rfl rfl (by simp only [go_sem]) (by first | exact .inl rfl | exact .inr rfl) (by (try simp only [go_sem, entsD_len]); omega) (by (try simp only [go_sem, entsD_len]); omega) fun t1 ft1 => ?_
      try simp only [freshT] at ft1
      try simp only [go_sem, fb3]
      refine hK8 _ _ ?_
      try clear hK8 K8
      refine AWp.mask [] rfl ?_
      simp only [go_sem]
      refine AWp.rs fun K9 hK9 => ?_
      try simp only [go_sem]
      refine hK9 _ _ ?_
      try clear hK9 K9
      refine AWp.ret ?_
      try simp only [thenQ, blkQ]
      apply endW_r [b3] [] [] [] (by (try simp only [go_sem]); rfl)
      · exact ⟨[], sp ++ [x], _, 0, 0, t1, fun _ => rfl, by first | exact ft1 | exact ft1.2, ap_sp0 hc0 (by show ¬ sp.length = 20; omega), rfl, by simp [go_sem, entsD, entD, mA_nil, mO_nil, mObjs]⟩
      · simp [LeA, LeD]
  · skip
    try simp only [decide_eq_false_iff_not] at hc0
    refine AWp.rs fun K10 hK10 => ?_
    try simp only [go_sem, fb3]
    refine hK10 _ _ ?_
    try clear hK10 K10
    refine AWp.mask [true, true, true, false, false, false, false, true] rfl ?_
    simp only [go_sem]
    refine AWp.cond _ rfl (fun hc2 => ?_) (fun hc2 => ?_)
    · skip
      exfalso
      simp at hc2
    · skip
      try simp only [decide_eq_false_iff_not, Bool.and_eq_false_iff, Int.not_le] at hc2
      refine AWp.rs fun K11 hK11 => ?_
      try simp only [go_sem, fb3]
      refine hK11 _ _ ?_
      try clear hK11 K11
      refine AWp.mask [true, true, true, false, true] rfl ?_
      simp only [go_sem]
      refine AWp.cond _ rfl (fun hc3 => ?_) (fun hc3 => ?_)
      · skip
        try simp only [decide_eq_true_eq] at hc3
        refine AWp.seq fun K12 hK12 => ?_
        refine AWp.rs fun K13 hK13 => ?_
        try simp only [go_sem, fb3]
        refine hK13 _ _ ?_
        try clear hK13 K13
        refine AWp.mask [true, true, false, false, false, false, false, false, false, true] rfl ?_
        simp only [go_sem]
        refine AWp.cond _ rfl (fun hc4 => ?_) (fun hc4 => ?_)
        · skip
          exfalso
          simp at hc4
        · skip
          try simp only [decide_eq_false_iff_not] at hc4
          refine AWp.skip ?_
          refine thenQ_n ?_
          refine hK12 _ _ ?_
          try clear hK12 K12
          refine AWp.dsC [] AgK.nil rfl [0, 1, 2, 3, 5, 6, 7] 4 [8] [9, 10, 11, 12] rfl (by kernel_rfl) rfl fun K14 hK14 => ?_
          try simp only [go_sem, fb3]
          try with_reducible refine Exists.intro _ (And.intro (by first | rfl | (simp only [go_sem, icast, entA, sNat, fb3]; first | rfl | exact ⟨by omega, rfl⟩)) ?_)
          refine DW.bsM (he := by first | rfl | kernel_rfl) (rows := [[.d (.str x.box), .d (.int .i64 1), .nils]]) rfl rfl (show slI Tryd.prog 22 = some (92, 3, 48) by simp only [go_sem]) (by rfl) rfl (by decide) (Nat.zero_lt_succ _) fun bn fbn => ?_
          try simp only [freshL] at fbn
          try simp only [go_sem, fb3, fbn]
          try with_reducible refine And.intro (by first | rfl | (simp only [go_sem, icast, entA, sNat, fb3, fbn]; first | done | rfl | exact ⟨by omega, rfl⟩)) ?_
          refine DW.appMM (b0 := 0) (c0 := 0) (rows := []) (b1 := bn) (ob1 := ⟨3, 1, [[.d (.str x.box), .d (.int .i64 1), .nils]]⟩) rfl rfl rfl rfl (fun _ => rfl) rfl (by simp [getO]) rfl rfl (by simp) (show slI Tryd.prog 22 = some (92, 3, 48) by simp only [go_sem]) (by first | (simp only [go_sem]; done) | rfl) rfl (by simp) rfl (Nat.zero_lt_succ _) (by simp) (by simp) fun bm cm hcm fbm => ?_
          simp only [List.nil_append, freshL] at fbm ⊢
          try simp only [go_sem, fb3, fbn, fbm]
          refine hK14 _ _ ?_
          try clear hK14 K14
          refine AWp.mask [] rfl ?_
          simp only [go_sem]
          refine AWp.nilCell (b := bm) (i := 0) (j := 2) (k := 3) (ob := ⟨3, cm, [[.d (.str x.box), .d (.int .i64 1), .nils]]⟩) (r := [.d (.str x.box), .d (.int .i64 1), .nils]) (by simp [getO]) rfl rfl ?_
          refine AWp.leH (LeH.ord [bn] [] [s, bm] [] _) ?_
          · skip
            refine AWp.rs fun K15 hK15 => ?_
            try simp only [go_sem, fb3, fbn, fbm]
            refine hK15 _ _ ?_
            try clear hK15 K15
            refine AWp.ret ?_
            try simp only [thenQ, blkQ]
            apply endW_r [b3] [] [] [] (by (try simp only [go_sem]); rfl)
            · refine ⟨[(⟨⟨x.box, 1, []⟩, 0, 0, fun _ => rfl⟩ : BM)], sp, 0, bm, cm, u, fun h => absurd h (by omega), hu, ?_, rfl, ?_⟩
              · rw [ap_c0 hc3 (by show findI [] x.box < 0; rw [findI_nil]; decide) (by simp)]; rfl
              · rw [mO_pos hcm, mA_pos hcm]; simp [go_sem, fb3, fbm, bmRow, mA_nil, bmRows, mObjs, mO_nil]
            · simp [LeA, LeD]
      · skip
        try simp only [decide_eq_false_iff_not] at hc3
        refine AWp.rs fun K16 hK16 => ?_
        try simp only [go_sem]
        refine hK16 _ _ ?_
        try clear hK16 K16
        refine AWp.cond _ rfl (fun hc5 => ?_) (fun hc5 => ?_)
        · skip
          try simp only [decide_eq_true_eq] at hc5
          refine AWp.rs fun K17 hK17 => ?_
          try simp only [go_sem]
          refine hK17 _ _ ?_
          try clear hK17 K17
          refine AWp.mask [false, false, true] rfl ?_
          simp only [go_sem]
          refine AWp.ret ?_
          try simp only [thenQ, blkQ]
          apply endW_r [b3] [] [] [] (by (try simp only [go_sem]); rfl)
          · exact ⟨[], sp, _, 0, 0, u, fun _ => rfl, hu, ap_n7 hc0 hc3 (by show findI [] x.box < 0; rw [findI_nil]; decide), rfl, by simp [go_sem, mA_nil, mO_nil, mObjs]⟩
          · simp [LeA, LeD]
        · skip
          exfalso
          simp at hc5
end Go.Proofs.YthhfbolhlbgbgaaDoor

namespace Go.Proofs.YthhfbolhlbgbgaaDoor
set_option linter.unusedSimpArgs false
set_option linter.unusedVariables false
set_option maxRecDepth 4000 in
set_option maxHeartbeats 1000000 in
theorem CloneM_cN (T : Tbl) (F : List (Nat × Ob)) (L : List Nat) : AC Tryd.prog T 97 [.nils] (⟨F, L⟩) (fun r h => r = .ret (.full 3 []) ∧ h = ⟨F, L⟩) := by
  refine ⟨Tryd.call97, ACalls.enterS Tryd.func97 rfl Tryd.ntmps97 rfl fun hb => ?_⟩
  simp only [go_sem, Tryd.results97]
  refine AWp.rs fun K1 hK1 => ?_
  try simp only [go_sem]
  refine hK1 _ _ ?_
  try clear hK1 K1
  refine AWp.seq fun K2 hK2 => ?_
  refine AWp.rs fun K3 hK3 => ?_
  try simp only [go_sem]
  refine hK3 _ _ ?_
  try clear hK3 K3
  refine AWp.cond _ rfl (fun hc0 => ?_) (fun hc0 => ?_)
  · skip
    try simp only [] at hc0
    refine AWp.rs fun K4 hK4 => ?_
    try simp only [go_sem]
    refine hK4 _ _ ?_
    try clear hK4 K4
    refine AWp.ret ?_
    try simp only [thenQ]
    apply endW_r [] [] [] [] (by (try simp only [go_sem]); rfl)
    · exact ⟨rfl, rfl⟩
    · simp [LeA]
  · skip
    exact absurd hc0 (by simp)
set_option maxRecDepth 4000 in
set_option maxHeartbeats 1000000 in
theorem CloneM_c0 (T : Tbl) (F : List (Nat × Ob)) (L : List Nat) : AC Tryd.prog T 97 [.nn 3 []] (⟨F, L⟩) (fun r h => r = .ret (.full 3 []) ∧ h = ⟨F, L⟩) := by
  refine ⟨Tryd.call97, ACalls.enterS Tryd.func97 rfl Tryd.ntmps97 rfl fun hb => ?_⟩
  simp only [go_sem, Tryd.results97]
  refine AWp.rs fun K1 hK1 => ?_
  try simp only [go_sem]
  refine hK1 _ _ ?_
  try clear hK1 K1
  refine AWp.seq fun K2 hK2 => ?_
  refine AWp.rs fun K3 hK3 => ?_
  try simp only [go_sem]
  refine hK3 _ _ ?_
  try clear hK3 K3
  refine AWp.cond _ rfl (fun hc0 => ?_) (fun hc0 => ?_)
  · skip
    exact absurd hc0 (by simp)
  · skip
    try simp only [] at hc0
    refine AWp.skip ?_
    refine thenQ_n ?_
    refine hK2 _ _ ?_
    try clear hK2 K2
    refine AWp.cut 0 fun K4 hK4 => ?_
    simp only [List.take_zero, List.drop_zero]
    try simp only [go_sem]
    refine DW.bs0 (he := by first | rfl | kernel_rfl) rfl rfl (show slI Tryd.prog 90 = some (97, 3, 32) by simp only [go_sem]) ?_
    try simp only [go_sem]
    refine DW.app0 rfl rfl rfl rfl (show slI Tryd.prog 90 = some (97, 3, 32) by simp only [go_sem]) rfl rfl ?_
    try simp only [go_sem]
    refine hK4 _ _ ?_
    try clear hK4 K4
    refine AWp.mask [false, true] rfl ?_
    simp only [go_sem]
    refine AWp.ret ?_
    apply endW_r [] [] [] [] (by (try simp only [go_sem]); rfl)
    · exact ⟨rfl, rfl⟩
    · simp [LeA]
set_option maxRecDepth 4000 in
set_option maxHeartbeats 1000000 in
theorem CloneM_cM (T : Tbl) (m : Mail) (ms : List Mail) (hms : (m :: ms).length ≤ 1000) (F : List (Nat × Ob)) (L : List Nat) : AC Tryd.prog T 97 [.nn 3 (mailsD (m :: ms))] (⟨F, L⟩) (fun r h => ∃ b c, (c = 0 → (m :: ms) = []) ∧ r = .ret (mA b 3 c (m :: ms).length) ∧ h = ⟨mO b 3 c (dRows (mailsD (m :: ms))) F, L⟩) := by
  refine ⟨Tryd.call97, ACalls.enterS Tryd.func97 rfl Tryd.ntmps97 rfl fun hb => ?_⟩
  simp only [go_sem, Tryd.results97]
  refine AWp.rs fun K1 hK1 => ?_
  try simp only [go_sem]
  refine hK1 _ _ ?_
  try clear hK1 K1
  refine AWp.seq fun K2 hK2 => ?_
  refine AWp.rs fun K3 hK3 => ?_
  try simp only [go_sem]
  refine hK3 _ _ ?_
  try clear hK3 K3
  refine AWp.cond _ rfl (fun hc0 => ?_) (fun hc0 => ?_)
  · skip
    exact absurd hc0 (by simp)
  · skip
    try simp only [] at hc0
    refine AWp.skip ?_
    refine thenQ_n ?_
    refine hK2 _ _ ?_
    try clear hK2 K2
    refine AWp.cut 0 fun K4 hK4 => ?_
    simp only [List.take_zero, List.drop_zero]
    try simp only [go_sem]
    refine DW.bs0 (he := by first | rfl | kernel_rfl) rfl rfl (show slI Tryd.prog 90 = some (97, 3, 32) by simp only [go_sem]) ?_
    try simp only [go_sem]
    refine DW.appM (b0 := 0) (c0 := 0) (rows := []) rfl rfl rfl rfl (fun _ => rfl) rfl (show slI Tryd.prog 90 = some (97, 3, 32) by simp only [go_sem]) rfl rfl (fun r hr => by cases hr) rfl (by rw [mailsD_len]; exact Nat.succ_pos _) (by rw [mailsD_len]; simp only [List.length_nil]; omega) (by rw [mailsD_len]; simp only [List.length_nil]; omega) fun bm cm hcm fbm => ?_
    simp only [List.nil_append] at fbm ⊢
    try simp only [go_sem]
    refine hK4 _ _ ?_
    try clear hK4 K4
    refine AWp.mask [false, true] rfl ?_
    simp only [go_sem]
    refine AWp.ret ?_
    apply endW_r [] [] [] [] (by (try simp only [go_sem]); rfl)
    · refine ⟨bm, cm, fun h => absurd h (by omega), ?_, ?_⟩
      · rw [mA_pos (by omega)]
      · rw [mO_pos (by omega)]; simp [go_sem]
    · simp [LeA]
theorem CloneM_c (T : Tbl) (ms : List Mail) (hms : ms.length ≤ 1000) (F : List (Nat × Ob)) (L : List Nat) : AC Tryd.prog T 97 [.d (.slc 3 (mailsD ms))] ⟨F, L⟩ (fun r h => ∃ b c, (c = 0 → ms = []) ∧ r = .ret (mA b 3 c ms.length) ∧ h = ⟨mO b 3 c (dRows (mailsD ms)) F, L⟩) := by
  have h0 : ∀ (r : AR) (h : AH), (r = .ret (.full 3 []) ∧ h = ⟨F, L⟩) → ∃ b c, (c = 0 → ([] : List Mail) = []) ∧ r = .ret (mA b 3 c ([] : List Mail).length) ∧ h = ⟨mO b 3 c (dRows (mailsD [])) F, L⟩ := by
    rintro _ _ ⟨rfl, rfl⟩
    exact ⟨0, 0, fun _ => rfl, by rw [mA_nil], by rw [mO_nil]⟩
  refine AC.nnil (fun e => ?_) ?_
  · cases ms with
    | nil => exact (CloneM_cN T F L).mono h0
    | cons m ms => cases e
  · cases ms with
    | nil => exact (CloneM_c0 T F L).mono h0
    | cons m ms => exact CloneM_cM T m ms hms F L
end Go.Proofs.YthhfbolhlbgbgaaDoor

namespace Go.Proofs.YthhfbolhlbgbgaaDoor
set_option linter.unusedSimpArgs false
set_option linter.unusedVariables false
end Go.Proofs.YthhfbolhlbgbgaaDoor

namespace Go.Proofs.YthhfbolhlbgbgaaDoor
set_option linter.unusedSimpArgs false
set_option linter.unusedVariables false
@[go_sem ↓ high] theorem plain_mA (b k c n : Nat) : (mA b k c n).plain = true := by unfold mA; split <;> rfl
@[go_sem ↓ high] theorem cells_mA (b k c n : Nat) : (mA b k c n).cells = [mA b k c n] := by unfold mA; split <;> rfl
@[go_sem ↓ high] theorem one_mA (b k c n : Nat) : (mA b k c n).one = true := by unfold mA; split <;> rfl
theorem AWp.rkG {P : Program} {T : Tbl} {sl : List AV} {h : AH} {id : Nat} {l : List Oper} {Q : AQ} (i : Nat) (H : ∀ K : List AV → AH → Prop, (∀ s h, Q .normal s h → K s h) → Go.Proofs.YthhfbolhlbgbgaaDoor.lvc P T false l.toArray (l.take i) sl h (fun s h => LV P T l.toArray (l.drop i) s h K (fun p h => ∀ s, Q (.pan p) s h)) (fun p h => ∀ s, Q (.pan p) s h)) : AWp P T (.region id l.toArray false) Q sl h :=
  AWp.regG i (H _ fun _ _ h => h)
theorem rowsM_1 {a : AV} {x y : D} {b k c n : Nat} (h : a = .agg [.d x, .d y, mA b k c n]) : rowsM 3 0 [(0, a)] = some [[.d x, .d y, mA b k c n]] := by
  subst h
  have := one_mA b k c n
  simp [rowsM, AV.cells, AV.plain, AV.one] at this ⊢
  simp [this]
theorem mA_le (b k c n : Nat) : LeA true (mA b k c n) (mA b k c n) := by unfold mA; split <;> exact LeA.rfl1 _ trivial
theorem AC.leR {P : Program} {T : Tbl} {f : FuncId} {args : List AV} {h : AH} {R R' : AR → AH → Prop} (c : AC P T f args h R) (hR : ∀ x h', R x h' → ∃ h'', LeH h' h'' ∧ R' x h'') : AC P T f args h R' :=
  ⟨c.call, fun G w vs S Rs => (c.run G w vs S Rs).mono fun e w' ⟨x, h', G', h1, h2, h3, h4⟩ => by
    obtain ⟨h'', hl, hr⟩ := hR _ _ h1
    exact ⟨x, h'', G', hr, h2, hl _ _ _ h3, h4⟩⟩
theorem mO_back : ∀ (A : List (Nat × Ob)) (b k c : Nat) (r : List (List AV)) (F : List (Nat × Ob)), (mO b k c r (A ++ F)).Perm (A ++ mO b k c r F)
  | [], _, _, _, _, _ => .refl _
  | p :: A, b, k, c, r, F => (mO_swap p b k c r (A ++ F)).symm.trans ((mO_back A b k c r F).cons p)
theorem CloneMr_c (T : Tbl) (ms : List Mail) (hms : ms.length ≤ 1000) (A F : List (Nat × Ob)) (L : List Nat) : AC Tryd.prog T 97 [.d (.slc 3 (mailsD ms))] ⟨A ++ F, L⟩ (fun r h => ∃ b c, (c = 0 → ms = []) ∧ r = .ret (mA b 3 c ms.length) ∧ h = ⟨A ++ mO b 3 c (dRows (mailsD ms)) F, L⟩) :=
  (CloneM_c T ms hms (A ++ F) L).leR fun x h' ⟨b, c, h1, h2, h3⟩ => ⟨_, by rw [h3]; exact LeH.pm (mO_back A ..), b, c, h1, h2, rfl⟩
theorem permO (A : List (Nat × Ob)) (b k c : Nat) (r : List (List AV)) (b' k' c' : Nat) (r' : List (List AV)) (F : List (Nat × Ob)) : (A ++ mO b k c r (mO b' k' c' r' F)).Perm (mO b' k' c' r' (A ++ mO b k c r F)) := (List.Perm.append_left A (mO_mO ..)).trans (mO_back A ..).symm
theorem ownP (A : List (Nat × Ob)) {bm cm : Nat} (l : List BM) (Y : BM) (F : List (Nat × Ob)) (hcm : 0 < cm) : (A ++ (bm, (⟨3, cm, bmRows l ++ [bmRow Y]⟩ : Ob)) :: mO Y.m 3 Y.c (dRows (mailsD Y.b.mails)) (mObjs l F)).Perm (A ++ mO bm 3 cm (bmRows (l ++ [Y])) (mObjs (l ++ [Y]) F)) := by
  rw [mO_pos hcm, bmRows_snoc, mObjs_app]
  exact List.Perm.append_left A ((mObjs_mO ..).cons _)
set_option maxRecDepth 4000 in
set_option maxHeartbeats 1000000 in
theorem CloneE_cN (T : Tbl) (F : List (Nat × Ob)) (L : List Nat) : AC Tryd.prog T 96 [.nils] (⟨F, L⟩) (fun r h => ∃ v, freshT v L ∧ r = .ret (.own v 6 ([])) ∧ h = ⟨F, v :: L⟩) := by
  refine ⟨Tryd.call96, ACalls.enterS Tryd.func96 rfl Tryd.ntmps96 rfl fun hb => ?_⟩
  simp only [go_sem, Tryd.results96]
  refine AWp.rs fun K1 hK1 => ?_
  try simp only [go_sem]
  refine hK1 _ _ ?_
  try clear hK1 K1
  refine AWp.seq fun K2 hK2 => ?_
  refine AWp.rs fun K3 hK3 => ?_
  try simp only [go_sem]
  refine hK3 _ _ ?_
  try clear hK3 K3
  refine AWp.cond _ rfl (fun hc0 => ?_) (fun hc0 => ?_)
  · skip
    try simp only [] at hc0
    refine AWp.rs fun K4 hK4 => ?_
    try simp only [go_sem]
    refine hK4 _ _ ?_
    try clear hK4 K4
    refine AWp.ownNilS 2 6 rfl rfl (by decide) fun t0 ft0 => ?_
    try simp only [freshT] at ft0
    simp only [go_sem]
    refine AWp.ret ?_
    try simp only [thenQ]
    apply endW_r [] [] [] [] (by (try simp only [go_sem]); rfl)
    · exact ⟨t0, ft0, rfl, rfl⟩
    · simp [LeA]
  · skip
    exact absurd hc0 (by simp)
set_option maxRecDepth 4000 in
set_option maxHeartbeats 1000000 in
theorem CloneE_cM (T : Tbl) (d : List Ent) (hd : d.length ≤ 1000) (F : List (Nat × Ob)) (L : List Nat) : AC Tryd.prog T 96 [.nn 6 (entsD d)] (⟨F, L⟩) (fun r h => ∃ v, freshT v L ∧ r = .ret (.own v 6 (entsD d)) ∧ h = ⟨F, v :: L⟩) := by
  refine ⟨Tryd.call96, ACalls.enterS Tryd.func96 rfl Tryd.ntmps96 rfl fun hb => ?_⟩
  simp only [go_sem, Tryd.results96]
  refine AWp.rs fun K1 hK1 => ?_
  try simp only [go_sem]
  refine hK1 _ _ ?_
  try clear hK1 K1
  refine AWp.seq fun K2 hK2 => ?_
  refine AWp.rs fun K3 hK3 => ?_
  try simp only [go_sem]
  refine hK3 _ _ ?_
  try clear hK3 K3
  refine AWp.cond _ rfl (fun hc0 => ?_) (fun hc0 => ?_)
  · skip
    exact absurd hc0 (by simp)
  · skip
    try simp only [] at hc0
    refine AWp.skip ?_
    refine thenQ_n ?_
    refine hK2 _ _ ?_
    try clear hK2 K2
    refine AWp.cut 0 fun K4 hK4 => ?_
    simp only [List.take_zero, List.drop_zero]
    try simp only [go_sem]
    refine DW.bsO (he := by first | rfl | kernel_rfl) rfl rfl (show slI Tryd.prog 23 = some (56, 6, 72) by simp only [go_sem]) (by (try simp only [go_sem]); rfl) rfl (by decide) fun t1 ft1 => ?_
    try simp only [freshT] at ft1
    try simp only [go_sem]
    refine DW.app rfl rfl rfl rfl (show slI Tryd.prog 23 = some (56, 6, 72) by simp only [go_sem]) rfl rfl (by simp only [go_sem]) (by first | exact .inl rfl | exact .inr rfl) (by (try simp only [go_sem]); (try simp only [List.length_nil, List.length_append, entsD_len]); omega) (by (try simp only [go_sem]); (try simp only [List.length_nil, List.length_append, entsD_len]); omega) fun t2 ft2 => ?_
    try simp only [freshT] at ft2
    try simp only [go_sem]
    refine hK4 _ _ ?_
    try clear hK4 K4
    refine AWp.mask [false, true] rfl ?_
    simp only [go_sem]
    refine AWp.ret ?_
    apply endW_r [] [] [] [] (by (try simp only [go_sem]); rfl)
    · exact ⟨_, by first | exact ft2 | exact ft2.2, rfl, rfl⟩
    · simp [LeA]
theorem CloneE_c (T : Tbl) (d : List Ent) (hd : d.length ≤ 1000) (F : List (Nat × Ob)) (L : List Nat) : AC Tryd.prog T 96 [.d (.slc 6 (entsD d))] ⟨F, L⟩ (fun r h => ∃ v, freshT v L ∧ r = .ret (.own v 6 (entsD d)) ∧ h = ⟨F, v :: L⟩) :=
  AC.nnil (fun e => by rw [e]; exact CloneE_cN T F L) (CloneE_cM T d hd F L)
set_option maxRecDepth 4000 in
set_option maxHeartbeats 1000000 in
theorem own_c (T : Tbl) (s : St) (hb : s.boxes.length ≤ 1000) (hm : ∀ y ∈ s.boxes, y.mails.length ≤ 1000) (hs : s.spool.length ≤ 1000) (F : List (Nat × Ob)) (L : List Nat) : AC Tryd.prog T 66 [.agg (stateA s)] (⟨F, L⟩) (fun r h => ∃ (l : List BM) (bb cb u : Nat), bmB l = s.boxes ∧ (cb = 0 → l = []) ∧ freshT u L ∧ r = .ret (.agg [mA bb 3 cb l.length, .own u 6 (entsD s.spool)]) ∧ h = ⟨mO bb 3 cb (bmRows l) (mObjs l F), u :: L⟩) := by
  refine ⟨Tryd.call66, ACalls.enterS Tryd.func66 rfl Tryd.ntmps66 rfl fun hb => ?_⟩
  simp only [go_sem, Tryd.results66]
  refine AWp.rs fun K1 hK1 => ?_
  try simp only [go_sem]
  intro b1
  first | intro fb1 | have fb1 := True.intro
  try simp only [freshL] at fb1
  intro b2
  first | intro fb2 | have fb2 := True.intro
  try simp only [freshL] at fb2
  refine hK1 _ _ ?_
  try clear hK1 K1
  refine AWp.rs fun K2 hK2 => ?_
  try simp only [go_sem, fb2]
  refine DW.acp [] [] rfl rfl rfl rfl (by (try simp only [go_sem]); rfl) rfl (CloneE_c T s.spool hs _ _) ?_
  rintro _ _ ⟨W3, fW3, rfl, rfl⟩
  try simp only [freshT, freshL] at fW3
  try simp only [go_sem]
  intro b3
  first | intro fb3 | have fb3 := True.intro
  try simp only [freshL] at fb3
  refine hK2 _ _ ?_
  try clear hK2 K2
  refine AWp.mask [false, true, true, true] rfl ?_
  simp only [go_sem]
  refine AWp.seq fun K4 hK4 => ?_
  refine AWp.rs fun K5 hK5 => ?_
  try simp only [go_sem, fb2, fb3]
  refine hK5 _ _ ?_
  try clear hK5 K5
  refine AWp.block ?_
  refine AWp.mask [false, true, true, false, true, true, true] rfl ?_
  simp only [go_sem]
  refine AWp.nilCell (b := b3) (i := 0) (j := 0) (k := 3) (ob := ⟨2, 1, [[.nils, .own W3 6 (entsD s.spool)]]⟩) (r := [.nils, .own W3 6 (entsD s.spool)]) (by simp [getO]) rfl rfl ?_
  refine AWp.loopS [true, true, true, true] [false, false, false, false, true] (fun n lc hc => ∃ (k : Nat) (l : List BM) (bb cb : Nat), n = s.boxes.length - k ∧ EqS lc [(13, .d (.int .i64 k))] ∧ EqS hc (⟨(b3, ⟨2, 1, [[mA bb 3 cb l.length, .own W3 6 (entsD s.spool)]]⟩) :: (b2, ⟨2, 1, [[.nils, .nils]]⟩) :: (b1, ⟨2, 1, [stateA s]⟩) :: mO bb 3 cb (bmRows l) (mObjs l F), W3 :: L⟩) ∧ (k ≤ s.boxes.length) ∧ (bmB l = s.boxes.take k) ∧ (cb = 0 → l = [])) rfl ?_ ?_
  · refine ⟨_, 0, [], 0, 0, rfl, ?_, ?_, ?_, ?_, ?_⟩
    · (try simp only [go_sem]) <;> first | exact ⟨rfl⟩ | (constructor; simp; done)
    · (try simp only [go_sem, fb3]) <;> first | exact ⟨rfl⟩ | (constructor; simp; done)
    all_goals (first | omega | rfl | (simp; done) | (simp; omega) | assumption)
  · rintro _ _ _ ⟨k, l, bb, cb, rfl, ⟨rfl⟩, ⟨rfl⟩, h1, h2, h3⟩
    have hlk : l.length = k := by have := congrArg List.length h2; simpa [bmB, Nat.min_eq_left h1] using this
    simp only [go_sem]
    refine AWp.rs fun K6 hK6 => ?_
    try simp only [go_sem]
    refine hK6 _ _ ?_
    try clear hK6 K6
    refine AWp.seq fun K7 hK7 => ?_
    refine AWp.cond _ rfl (fun hc0 => ?_) (fun hc0 => ?_)
    · skip
      try simp only [decide_eq_true_eq] at hc0
      have hlt : k < s.boxes.length := by omega
      have e1 := plain_mA
      simp only [AV.plain, AV.one] at e1
      have e2 := cells_mA
      unfold AV.cells at e2
      refine AWp.skip ?_
      refine thenQ_n ?_
      refine hK7 _ _ ?_
      try clear hK7 K7
      refine AWp.seq fun K8 hK8 => ?_
      refine AWp.block ?_
      refine AWp.rs fun K9 hK9 => ?_
      try simp only [go_sem, boxesD_get _ _ _ hlt, boxD]
      (repeat (with_reducible refine And.intro ?_ ?_; omega))
      intro b5
      first | intro fb5 | have fb5 := True.intro
      try simp only [freshL] at fb5
      refine hK9 _ _ ?_
      try clear hK9 K9
      refine AWp.rs fun K10 hK10 => ?_
      try simp only [go_sem, fb5]
      refine DW.acp [] [] rfl rfl rfl rfl (by (try simp only [go_sem]); rfl) rfl (CloneMr_c T _ (hm _ (List.getElem_mem hlt)) [_, _, _, _] _ _) ?_
      rintro _ _ ⟨m, c, hmc, rfl, rfl⟩
      try simp only [go_sem, e1, e2, fb5]
      refine hK10 _ _ ?_
      try clear hK10 K10
      refine AWp.mask [true, true, true, true, true, true] rfl ?_
      simp only [go_sem]
      refine AWp.rkG 3 fun K11 hK11 => ?_
      simp only [List.take_succ_cons, List.take_zero, List.drop_succ_cons, List.drop_zero]
      try simp only [go_sem, fb3, fb5]
      refine DW.listB (cp := false) [_, _, _] [_] _ _ ?_
      refine DW.bsM (he := by first | rfl | kernel_rfl) (rows := [[.d (.str (s.boxes[k]'hlt).name), .d (.int .i64 (s.boxes[k]'hlt).next), mA m 3 c (s.boxes[k]'hlt).mails.length]]) rfl rfl (show slI Tryd.prog 22 = some (92, 3, 48) by simp only [go_sem]) (rowsM_1 rfl) rfl (by decide) (Nat.zero_lt_succ _) fun bn fbn => ?_
      try simp only [freshL] at fbn
      refine LV.lvc ?_
      try simp only [go_sem]
      refine DW.leHe rfl (LeH.pm (permO [_, _, _, _, _] ..)) ?_
      refine DW.appMM (b0 := bb) (c0 := cb) (rows := bmRows l) (b1 := bn) (ob1 := ⟨3, 1, [[.d (.str (s.boxes[k]'hlt).name), .d (.int .i64 (s.boxes[k]'hlt).next), mA m 3 c (s.boxes[k]'hlt).mails.length]]⟩) rfl rfl (by rw [bmRows_len]; rfl) rfl (fun h => by rw [h3 h]; rfl) rfl (by simp [getO]) rfl rfl (by simp) (show slI Tryd.prog 22 = some (92, 3, 48) by simp only [go_sem]) (by first | (simp only [go_sem]; done) | rfl) rfl (bmRows_full l) rfl (Nat.zero_lt_succ _) (by simp only [bmRows_len, List.length_cons, List.length_nil]; omega) (by simp only [bmRows_len, List.length_cons, List.length_nil]; omega) fun bm cm hcm fbm => ?_
      simp only [List.cons_append, List.nil_append, freshL] at fbm ⊢
      try simp only [go_sem, fb3, fb5, fbn, fbm]
      refine hK11 _ _ ?_
      try clear hK11 K11
      refine blkQ_n (thenQ_n ?_)
      refine hK8 _ _ ?_
      try clear hK8 K8
      refine AWp.mask [true, true, false, true, true, true] rfl ?_
      simp only [go_sem]
      refine AWp.leH (LeH.ord [bn] [] [b5, b3, b2, b1, bm] [] _) ?_
      try simp only [go_sem, fb2, fb3, fb5, fbn, fbm]
      refine AWp.leH (LeH.pm (ownP [_, _, _, _] (bm := bm) (cm := cm) l (⟨(s.boxes[k]'hlt), m, c, hmc⟩ : BM) F hcm)) ?_
      simp only [List.cons_append, List.nil_append]
      · skip
        refine AWp.rk fun K12 hK12 => ?_
        try simp only [go_sem, icast]
        (repeat (with_reducible refine And.intro ?_ ?_; omega))
        refine hK12 _ _ ?_
        try clear hK12 K12
        refine thenQ_n ?_
        refine EndS.mk [true, true, true, true] [false, false, false, false, true] [b5] [] [b3, b2, b1] [] rfl ?_ ?_
        · (try simp only [go_sem]) <;> try rfl
        refine .e ⟨_, ?_, k + 1, l ++ [(⟨(s.boxes[k]'hlt), m, c, hmc⟩ : BM)], bm, cm, rfl, ?_, ?_, ?_, ?_, ?_⟩
        · first | omega | (simp; omega) | (grind)
        · (try simp only [go_sem]) <;> first | exact ⟨rfl⟩ | (constructor; simp; done)
        · (try simp only [go_sem, fb2, fb3, fb5]) <;> first | exact ⟨rfl⟩ | (constructor; rw [mA_pos hcm]; simp)
        · omega
        · rw [bmB_snoc, h2, take_succ' hlt]
        · exact fun h => absurd h (by omega)
    · skip
      try simp only [decide_eq_false_iff_not, Int.not_lt] at hc0
      refine AWp.exit ?_
      refine thenQ_e (thenQ_e (blkQ_e (thenQ_n ?_)))
      refine hK4 _ _ ?_
      try clear hK4 K4
      refine AWp.mask [true, true] rfl ?_
      simp only [go_sem]
      refine AWp.rs fun K13 hK13 => ?_
      try simp only [go_sem, fb2, fb3]
      refine hK13 _ _ ?_
      try clear hK13 K13
      refine AWp.ret ?_
      apply endW_r [b1, b2, b3] [] [] [] (by (try simp only [go_sem, fb2, fb3]); rfl)
      · exact ⟨l, bb, cb, W3, by rw [h2, List.take_of_length_le (by omega)], h3, fW3, rfl, by simp [go_sem]⟩
      · simp [LeA, LeL, mA_le]
end Go.Proofs.YthhfbolhlbgbgaaDoor

namespace Go.Proofs.YthhfbolhlbgbgaaDoor
set_option linter.unusedSimpArgs false
set_option linter.unusedVariables false
theorem mObjs_back : ∀ (A : List (Nat × Ob)) (l : List BM) (F : List (Nat × Ob)), (A ++ mObjs l F).Perm (mObjs l (A ++ F))
  | [], _, _ => .refl _
  | p :: A, l, F => ((mObjs_back A l F).cons p).trans (mObjs_swap l p (A ++ F))
theorem boxesD_full (l : List BoxS) : ∀ r ∈ boxesD l, r.length = 3 := fun r hr => by
  simp only [boxesD, List.mem_map] at hr
  obtain ⟨f, _, rfl⟩ := hr
  rfl
section
variable {P : Program} {T : Tbl} {Q : AQ} {sl : List AV} {code : Code} {L : List Nat} {F : List (Nat × Ob)}
theorem AWp.iceM (p : Nat × Ob) {bb cb : Nat} (hp : p.1 ≠ bb) : ∀ (l : List BM) (pre : List BoxS), AWp P T code Q sl ⟨p :: (bb, ⟨3, cb, dRows (boxesD (pre ++ bmB l))⟩) :: F, L⟩ → AWp P T code Q sl ⟨p :: (bb, ⟨3, cb, dRows (boxesD pre) ++ bmRows l⟩) :: mObjs l F, L⟩
  | [], pre, H => by simpa [bmB, bmRows, mObjs] using H
  | x :: l, pre, H => by
    have ih := AWp.iceM p hp l (pre ++ [x.b]) (by simpa [bmB] using H)
    refine AWp.pm (mO_back [_, _] x.m 3 x.c (dRows (mailsD x.b.mails)) (mObjs l F)).symm ?_
    have e : (dRows (boxesD pre) ++ bmRows (x :: l)).set pre.length ((bmRow x).set 2 (.d (.slc 3 (mailsD x.b.mails)))) = dRows (boxesD (pre ++ [x.b])) ++ bmRows l := by
      simp [dRows, boxesD, bmRows, bmRow, boxD]
    refine AWp.iceH (b' := bb) (i := pre.length) (j := 2) (rows := mailsD x.b.mails) (ob := ⟨3, cb, dRows (boxesD pre) ++ bmRows (x :: l)⟩) (r := bmRow x) (by simp [getO, hp]) (by simp [dRows, boxesD, bmRows]) (by simp [bmRow, mailsD_len]) (fun h => by rw [x.ok h]; rfl) (by decide) (mailsD_full _) ?_
    rw [e]
    simpa [setO, hp] using ih
theorem AWp.iceB {b7 bb cb : Nat} {l : List BM} {v : AV} (A : List (Nat × Ob)) (hcb : cb = 0 → l = []) (H : AWp P T code Q sl ⟨(b7, ⟨2, 1, [[.d (.slc 3 (boxesD (bmB l))), v]]⟩) :: (A ++ F), L⟩) : AWp P T code Q sl ⟨(b7, ⟨2, 1, [[mA bb 3 cb l.length, v]]⟩) :: (A ++ mO bb 3 cb (bmRows l) (mObjs l F)), L⟩ := by
  refine AWp.pm (((mO_back A ..).symm.trans (mO_perm (mObjs_back A l F))).cons _) ?_
  rcases Nat.eq_zero_or_pos cb with h0 | h0
  · subst h0
    have hl := hcb rfl
    subst hl
    refine AWp.iceH (b := bb) (b' := b7) (i := 0) (j := 0) (k := 3) (c := 0) (rows := []) (ob := ⟨2, 1, [[mA bb 3 0 0, v]]⟩) (r := [mA bb 3 0 0, v]) (F := (b7, ⟨2, 1, [[mA bb 3 0 0, v]]⟩) :: (A ++ F)) (by simp [getO]) rfl rfl (fun _ => rfl) (by decide) (fun r hr => by cases hr) ?_
    simpa [setO, bmB, boxesD] using H
  · rw [mO_pos h0]
    refine AWp.nd fun hnd => ?_
    have hne := nd2 hnd
    have := AWp.iceM (P := P) (T := T) (Q := Q) (sl := sl) (code := code) (L := L) (F := A ++ F) (b7, ⟨2, 1, [[mA bb 3 cb l.length, v]]⟩) (bb := bb) (cb := cb) hne l []
    refine this ?_
    simp only [List.nil_append]
    refine AWp.pm (List.Perm.swap ..) ?_
    have hlen : (boxesD (bmB l)).length = l.length := by simp [boxesD, bmB]
    have h2 := AWp.iceH (P := P) (T := T) (Q := Q) (sl := sl) (code := code) (b := bb) (b' := b7) (i := 0) (j := 0) (k := 3) (c := cb) (rows := boxesD (bmB l)) (L := L) (ob := ⟨2, 1, [[mA bb 3 cb l.length, v]]⟩) (r := [mA bb 3 cb l.length, v]) (F := (b7, ⟨2, 1, [[mA bb 3 cb l.length, v]]⟩) :: (A ++ F)) (by simp [getO]) rfl (by rw [hlen]; rfl) (fun h => absurd h (by omega)) (by decide) (boxesD_full _) (by simpa [setO] using H)
    rwa [mO_pos h0] at h2
end
end Go.Proofs.YthhfbolhlbgbgaaDoor

namespace Go.Proofs.YthhfbolhlbgbgaaDoor
set_option linter.unusedSimpArgs false
set_option linter.unusedVariables false
set_option maxRecDepth 4000 in
set_option maxHeartbeats 1000000 in
theorem ownD_c (T : Tbl) (s : St) (hb : s.boxes.length ≤ 1000) (hm : ∀ y ∈ s.boxes, y.mails.length ≤ 1000) (hs : s.spool.length ≤ 1000) (F : List (Nat × Ob)) (L : List Nat) : AC Tryd.prog T 66 [.agg (stateA s)] (⟨F, L⟩) (fun r h => r = .ret (.agg (stateA s)) ∧ h = ⟨F, L⟩) := by
  refine ⟨Tryd.call66, ACalls.enterS Tryd.func66 rfl Tryd.ntmps66 rfl fun hb => ?_⟩
  simp only [go_sem, Tryd.results66]
  refine AWp.rs fun K1 hK1 => ?_
  try simp only [go_sem]
  intro b1
  first | intro fb1 | have fb1 := True.intro
  try simp only [freshL] at fb1
  intro b2
  first | intro fb2 | have fb2 := True.intro
  try simp only [freshL] at fb2
  refine hK1 _ _ ?_
  try clear hK1 K1
  refine AWp.rs fun K2 hK2 => ?_
  try simp only [go_sem, fb2]
  refine DW.acp [] [] rfl rfl rfl rfl (by (try simp only [go_sem]); rfl) rfl (CloneE_c T s.spool hs _ _) ?_
  rintro _ _ ⟨W3, fW3, rfl, rfl⟩
  try simp only [freshT, freshL] at fW3
  try simp only [go_sem]
  intro b3
  first | intro fb3 | have fb3 := True.intro
  try simp only [freshL] at fb3
  refine hK2 _ _ ?_
  try clear hK2 K2
  refine AWp.mask [false, true, true, true] rfl ?_
  simp only [go_sem]
  refine AWp.seq fun K4 hK4 => ?_
  refine AWp.rs fun K5 hK5 => ?_
  try simp only [go_sem, fb2, fb3]
  refine hK5 _ _ ?_
  try clear hK5 K5
  refine AWp.block ?_
  refine AWp.mask [false, true, true, false, true, true, true] rfl ?_
  simp only [go_sem]
  refine AWp.nilCell (b := b3) (i := 0) (j := 0) (k := 3) (ob := ⟨2, 1, [[.nils, .own W3 6 (entsD s.spool)]]⟩) (r := [.nils, .own W3 6 (entsD s.spool)]) (by simp [getO]) rfl rfl ?_
  refine AWp.loopS [true, true, true, true] [false, false, false, false, true] (fun n lc hc => ∃ (k : Nat) (l : List BM) (bb cb : Nat), n = s.boxes.length - k ∧ EqS lc [(13, .d (.int .i64 k))] ∧ EqS hc (⟨(b3, ⟨2, 1, [[mA bb 3 cb l.length, .own W3 6 (entsD s.spool)]]⟩) :: (b2, ⟨2, 1, [[.nils, .nils]]⟩) :: (b1, ⟨2, 1, [stateA s]⟩) :: mO bb 3 cb (bmRows l) (mObjs l F), W3 :: L⟩) ∧ (k ≤ s.boxes.length) ∧ (bmB l = s.boxes.take k) ∧ (cb = 0 → l = [])) rfl ?_ ?_
  · refine ⟨_, 0, [], 0, 0, rfl, ?_, ?_, ?_, ?_, ?_⟩
    · (try simp only [go_sem]) <;> first | exact ⟨rfl⟩ | (constructor; simp; done)
    · (try simp only [go_sem, fb3]) <;> first | exact ⟨rfl⟩ | (constructor; simp; done)
    all_goals (first | omega | rfl | (simp; done) | (simp; omega) | assumption)
  · rintro _ _ _ ⟨k, l, bb, cb, rfl, ⟨rfl⟩, ⟨rfl⟩, h1, h2, h3⟩
    have hlk : l.length = k := by have := congrArg List.length h2; simpa [bmB, Nat.min_eq_left h1] using this
    simp only [go_sem]
    refine AWp.rs fun K6 hK6 => ?_
    try simp only [go_sem]
    refine hK6 _ _ ?_
    try clear hK6 K6
    refine AWp.seq fun K7 hK7 => ?_
    refine AWp.cond _ rfl (fun hc0 => ?_) (fun hc0 => ?_)
    · skip
      try simp only [decide_eq_true_eq] at hc0
      have hlt : k < s.boxes.length := by omega
      have e1 := plain_mA
      simp only [AV.plain, AV.one] at e1
      have e2 := cells_mA
      unfold AV.cells at e2
      refine AWp.skip ?_
      refine thenQ_n ?_
      refine hK7 _ _ ?_
      try clear hK7 K7
      refine AWp.seq fun K8 hK8 => ?_
      refine AWp.block ?_
      refine AWp.rs fun K9 hK9 => ?_
      try simp only [go_sem, boxesD_get _ _ _ hlt, boxD]
      (repeat (with_reducible refine And.intro ?_ ?_; omega))
      intro b5
      first | intro fb5 | have fb5 := True.intro
      try simp only [freshL] at fb5
      refine hK9 _ _ ?_
      try clear hK9 K9
      refine AWp.rs fun K10 hK10 => ?_
      try simp only [go_sem, fb5]
      refine DW.acp [] [] rfl rfl rfl rfl (by (try simp only [go_sem]); rfl) rfl (CloneMr_c T _ (hm _ (List.getElem_mem hlt)) [_, _, _, _] _ _) ?_
      rintro _ _ ⟨m, c, hmc, rfl, rfl⟩
      try simp only [go_sem, e1, e2, fb5]
      refine hK10 _ _ ?_
      try clear hK10 K10
      refine AWp.mask [true, true, true, true, true, true] rfl ?_
      simp only [go_sem]
      refine AWp.rkG 3 fun K11 hK11 => ?_
      simp only [List.take_succ_cons, List.take_zero, List.drop_succ_cons, List.drop_zero]
      try simp only [go_sem, fb3, fb5]
      refine DW.listB (cp := false) [_, _, _] [_] _ _ ?_
      refine DW.bsM (he := by first | rfl | kernel_rfl) (rows := [[.d (.str (s.boxes[k]'hlt).name), .d (.int .i64 (s.boxes[k]'hlt).next), mA m 3 c (s.boxes[k]'hlt).mails.length]]) rfl rfl (show slI Tryd.prog 22 = some (92, 3, 48) by simp only [go_sem]) (rowsM_1 rfl) rfl (by decide) (Nat.zero_lt_succ _) fun bn fbn => ?_
      try simp only [freshL] at fbn
      refine LV.lvc ?_
      try simp only [go_sem]
      refine DW.leHe rfl (LeH.pm (permO [_, _, _, _, _] ..)) ?_
      refine DW.appMM (b0 := bb) (c0 := cb) (rows := bmRows l) (b1 := bn) (ob1 := ⟨3, 1, [[.d (.str (s.boxes[k]'hlt).name), .d (.int .i64 (s.boxes[k]'hlt).next), mA m 3 c (s.boxes[k]'hlt).mails.length]]⟩) rfl rfl (by rw [bmRows_len]; rfl) rfl (fun h => by rw [h3 h]; rfl) rfl (by simp [getO]) rfl rfl (by simp) (show slI Tryd.prog 22 = some (92, 3, 48) by simp only [go_sem]) (by first | (simp only [go_sem]; done) | rfl) rfl (bmRows_full l) rfl (Nat.zero_lt_succ _) (by simp only [bmRows_len, List.length_cons, List.length_nil]; omega) (by simp only [bmRows_len, List.length_cons, List.length_nil]; omega) fun bm cm hcm fbm => ?_
      simp only [List.cons_append, List.nil_append, freshL] at fbm ⊢
      try simp only [go_sem, fb3, fb5, fbn, fbm]
      refine hK11 _ _ ?_
      try clear hK11 K11
      refine blkQ_n (thenQ_n ?_)
      refine hK8 _ _ ?_
      try clear hK8 K8
      refine AWp.mask [true, true, false, true, true, true] rfl ?_
      simp only [go_sem]
      refine AWp.leH (LeH.ord [bn] [] [b5, b3, b2, b1, bm] [] _) ?_
      try simp only [go_sem, fb2, fb3, fb5, fbn, fbm]
      refine AWp.leH (LeH.pm (ownP [_, _, _, _] (bm := bm) (cm := cm) l (⟨(s.boxes[k]'hlt), m, c, hmc⟩ : BM) F hcm)) ?_
      simp only [List.cons_append, List.nil_append]
      · skip
        refine AWp.rk fun K12 hK12 => ?_
        try simp only [go_sem, icast]
        (repeat (with_reducible refine And.intro ?_ ?_; omega))
        refine hK12 _ _ ?_
        try clear hK12 K12
        refine thenQ_n ?_
        refine EndS.mk [true, true, true, true] [false, false, false, false, true] [b5] [] [b3, b2, b1] [] rfl ?_ ?_
        · (try simp only [go_sem]) <;> try rfl
        refine .e ⟨_, ?_, k + 1, l ++ [(⟨(s.boxes[k]'hlt), m, c, hmc⟩ : BM)], bm, cm, rfl, ?_, ?_, ?_, ?_, ?_⟩
        · first | omega | (simp; omega) | (grind)
        · (try simp only [go_sem]) <;> first | exact ⟨rfl⟩ | (constructor; simp; done)
        · (try simp only [go_sem, fb2, fb3, fb5]) <;> first | exact ⟨rfl⟩ | (constructor; rw [mA_pos hcm]; simp)
        · omega
        · rw [bmB_snoc, h2, take_succ' hlt]
        · exact fun h => absurd h (by omega)
    · skip
      try simp only [decide_eq_false_iff_not, Int.not_lt] at hc0
      refine AWp.exit ?_
      refine thenQ_e (thenQ_e (blkQ_e (thenQ_n ?_)))
      refine hK4 _ _ ?_
      try clear hK4 K4
      refine AWp.mask [true, true] rfl ?_
      simp only [go_sem]
      refine AWp.iceB (b7 := b3) (l := l) (F := F) [_, _] h3 ?_
      rw [show bmB l = s.boxes from by rw [h2, List.take_of_length_le (by omega)]]
      simp only [List.cons_append, List.nil_append]
      · skip
        refine AWp.rs fun K13 hK13 => ?_
        try simp only [go_sem, fb2, fb3]
        refine hK13 _ _ ?_
        try clear hK13 K13
        refine AWp.ret ?_
        apply endW_r [b1, b2, b3] [W3] [] [] (by (try simp only [go_sem, fb2, fb3]); rfl)
        · exact ⟨rfl, by simp [go_sem]⟩
        · simp [LeA, LeL, LeD]
end Go.Proofs.YthhfbolhlbgbgaaDoor

namespace Go.Proofs.YthhfbolhlbgbgaaDoor
def mailI (m : Mail) : Prop := 0 ≤ m.flags ∧ m.flags ≤ 31 ∧ m.text.length ≤ 2000
def boxI (y : BoxS) : Prop := y.mails.length ≤ 30 ∧ 0 ≤ y.next ∧ ∀ m ∈ y.mails, mailI m
structure InvS (s : St) : Prop where
  bx : s.boxes.length ≤ 5
  sp : s.spool.length ≤ 20
  al : ∀ y ∈ s.boxes, boxI y
theorem ent_0 {x : Ent} (h : entE x = 0) : 0 ≤ x.flags ∧ x.flags ≤ 31 ∧ x.text.length ≤ 2000 := by
  unfold entE at h
  split at h
  · cases h
  split at h
  · cases h
  split at h
  · cases h
  split at h
  · cases h
  omega
theorem ml_I {nx : Int} : ∀ (l : List Mail) (la : Int), mlF nx la l = true → ∀ m ∈ l, mailI m
  | [], _, _, m, hm => by cases hm
  | m :: r, la, h, m', hm => by
    rw [mlF, Bool.and_eq_true] at h
    rcases List.mem_cons.1 hm with rfl | hm
    · have := h.1
      simp only [Bool.and_eq_true, decide_eq_true_eq] at this
      exact ⟨this.1.1.2, this.1.2, this.2⟩
    · exact ml_I r _ h.2 m' hm
theorem boxOk_I {b : BoxS} (h : boxOk b = true) : boxI b := by
  unfold boxOk at h
  split at h
  · cases h
  · exact ⟨by omega, by omega, ml_I _ _ h⟩
theorem bx_I : ∀ (l pre : List BoxS), bxF pre l = true → ∀ y ∈ l, boxI y
  | [], _, _, y, hy => by cases hy
  | b :: r, pre, h, y, hy => by
    rw [bxF, Bool.and_eq_true, Bool.and_eq_true] at h
    rcases List.mem_cons.1 hy with rfl | hy
    · exact boxOk_I h.1.1
    · exact bx_I r _ h.2 y hy
theorem stE_I {s : St} (h : stE s = 0) : InvS s := by
  unfold stE at h
  split at h
  · cases h
  split at h
  · cases h
  rename_i h1 h2
  exact ⟨by omega, by omega, bx_I _ [] (by simpa using h2)⟩
theorem bytesM_I : ∀ (l : List Mail), (∀ m ∈ l, mailI m) → bytesM l ≤ 2000 * l.length
  | [], _ => by simp [bytesM]
  | m :: r, h => by
    have h1 := (h m (List.mem_cons_self ..)).2.2
    have h2 := bytesM_I r fun x hx => h x (List.mem_cons_of_mem _ hx)
    simp only [bytesM, List.length_cons]
    omega
theorem bytesB_I : ∀ (l : List BoxS), (∀ y ∈ l, boxI y) → bytesB l ≤ 60000 * l.length
  | [], _ => by simp [bytesB]
  | b :: r, h => by
    have hb := h b (List.mem_cons_self ..)
    have h1 := bytesM_I b.mails hb.2.2
    have h3 := hb.1
    have h2 := bytesB_I r fun x hx => h x (List.mem_cons_of_mem _ hx)
    simp only [bytesB, List.length_cons]
    omega
theorem set_I {l : List BoxS} {i : Nat} {z : BoxS} (h : ∀ y ∈ l, boxI y) (hz : boxI z) : ∀ y ∈ l.set i z, boxI y := fun y hy => by
  rcases List.mem_or_eq_of_mem_set hy with hy | rfl
  · exact h y hy
  · exact hz
theorem addS_I {l : List BoxS} {i : Nat} {fl : Int} {tx : Tx} (h : ∀ y ∈ l, boxI y) (hm : 0 ≤ fl ∧ fl ≤ 31 ∧ tx.length ≤ 2000) : (addS l i fl tx).1.length = l.length ∧ ∀ y ∈ (addS l i fl tx).1, boxI y := by
  unfold addS
  split
  · exact ⟨rfl, h⟩
  · rename_i x hx
    have hxI := h x (List.mem_of_getElem? hx)
    split
    · exact ⟨rfl, h⟩
    · refine ⟨by simp, set_I h ⟨?_, ?_, ?_⟩⟩
      · have := hxI.1
        simp [addB]; omega
      · have := hxI.2.1
        simp [addB]; omega
      · intro m hm'
        simp only [addB, List.mem_append, List.mem_singleton] at hm'
        rcases hm' with hm' | rfl
        · exact hxI.2.2 m hm'
        · exact hm
theorem setFl_I {y : BoxS} {k : Nat} {fl : Int} (h : boxI y) (h1 : 0 ≤ fl) (h2 : fl ≤ 31) : boxI (setFl y k fl) := by
  unfold setFl
  split
  · rename_i m hm
    refine ⟨by simpa using h.1, h.2.1, fun m' hm' => ?_⟩
    rcases List.mem_or_eq_of_mem_set hm' with hm' | rfl
    · exact h.2.2 m' hm'
    · exact ⟨h1, h2, (h.2.2 m (List.mem_of_getElem? hm)).2.2⟩
  · exact h
theorem apB_I {l : List BoxS} {i : Nat} {x : Ent} (h : ∀ y ∈ l, boxI y) (hx : 0 ≤ x.flags ∧ x.flags ≤ 31 ∧ x.text.length ≤ 2000) : (apB l i x).1.length = l.length ∧ ∀ y ∈ (apB l i x).1, boxI y := by
  unfold apB
  split
  · exact addS_I h hx
  split
  · exact ⟨rfl, h⟩
  rename_i y hy
  have hyI := h y (List.mem_of_getElem? hy)
  split
  · refine ⟨by simp, set_I h ⟨Nat.le_trans (List.length_filter_le _ _) hyI.1, hyI.2.1, fun m hm => hyI.2.2 m (List.mem_filter.1 hm).1⟩⟩
  split
  · exact ⟨rfl, h⟩
  split
  · exact ⟨by simp, set_I h (setFl_I hyI hx.1 hx.2.1)⟩
  split
  · exact ⟨rfl, h⟩
  split
  · exact ⟨rfl, h⟩
  · rename_i m hm
    exact addS_I h (hyI.2.2 m (List.mem_of_getElem? hm))
theorem apS_I {s : St} {x : Ent} (h : InvS s) (hx : entE x = 0) : InvS (apS s x).1 := by
  have h0 := ent_0 hx
  obtain ⟨hb, hs, ha⟩ := h
  unfold apS
  split
  · split
    · exact ⟨hb, hs, ha⟩
    · exact ⟨hb, by simp; omega, ha⟩
  split
  · split
    · exact ⟨hb, hs, ha⟩
    split
    · exact ⟨hb, hs, ha⟩
    · refine ⟨by simp; omega, hs, fun y hy => ?_⟩
      rcases List.mem_append.1 hy with hy | hy
      · exact ha y hy
      · rw [List.mem_singleton.1 hy]
        exact ⟨by simp, by simp, fun m hm => by cases hm⟩
  split
  · exact ⟨hb, hs, ha⟩
  · have := apB_I (i := (findI s.boxes x.box).toNat) (x := x) ha h0
    exact ⟨by rw [this.1]; exact hb, hs, this.2⟩
theorem InvS.bm {l : List BM} {sp : List Ent} (h : InvS ⟨bmB l, sp⟩) : BmS l ∧ FlS l := by
  obtain ⟨hb, hs, ha⟩ := h
  have hI : ∀ x ∈ l, boxI x.b := fun x hx => ha x.b (List.mem_map.2 ⟨x, hx, rfl⟩)
  have hb' : (bmB l).length ≤ 5 := hb
  have hl : l.length ≤ 5 := by simpa [bmB] using hb
  have hy := bytesB_I (bmB l) ha
  refine ⟨⟨by omega, fun x hx => Nat.le_trans (hI x hx).1 (by decide), by omega, fun x hx => (hI x hx).2.1⟩, fun y hy => ⟨fun m hm => ?_, fun m hm => ((hI y hy).2.2 m hm).2.2⟩⟩
  exact ⟨((hI y hy).2.2 m hm).1, ((hI y hy).2.2 m hm).2.1⟩
/-- entries applied one behind the other -/
def allF : St → List Ent → St × Int
  | s, [] => (s, 0)
  | s, x :: r => if ¬ entE x = 0 then (⟨[], []⟩, entE x) else if ¬ (apS s x).2 = 0 then (⟨[], []⟩, (apS s x).2) else allF (apS s x).1 r
def allS (s : St) (l : List Ent) : St × Int := if ¬ stE s = 0 then (⟨[], []⟩, stE s) else if 10 < l.length then (⟨[], []⟩, 1) else allF s l
theorem all_e {s : St} {l : List Ent} {k : Nat} (h : k < l.length) (he : ¬ entE (l[k]'h) = 0) : allF s (l.drop k) = (⟨[], []⟩, entE (l[k]'h)) := by
  rw [List.drop_eq_getElem_cons h, allF, if_pos he]
theorem all_a {s : St} {l : List Ent} {k : Nat} (h : k < l.length) (he : entE (l[k]'h) = 0) (ha : ¬ (apS s (l[k]'h)).2 = 0) : allF s (l.drop k) = (⟨[], []⟩, (apS s (l[k]'h)).2) := by
  rw [List.drop_eq_getElem_cons h, allF, if_neg (by simp [he]), if_pos ha]
theorem all_t {s : St} {l : List Ent} {k : Nat} (h : k < l.length) (he : entE (l[k]'h) = 0) (ha : (apS s (l[k]'h)).2 = 0) : allF s (l.drop k) = allF (apS s (l[k]'h)).1 (l.drop (k + 1)) := by
  rw [List.drop_eq_getElem_cons h, allF, if_neg (by simp [he]), if_neg (by simp [ha])]
theorem all_end {s : St} {l : List Ent} {k : Nat} (h : l.length ≤ k) : allF s (l.drop k) = (s, 0) := by rw [List.drop_eq_nil_of_le h]; rfl
end Go.Proofs.YthhfbolhlbgbgaaDoor

namespace Go.Proofs.YthhfbolhlbgbgaaDoor
set_option linter.unusedSimpArgs false
set_option linter.unusedVariables false
theorem permC (p : Nat × Ob) (A : List (Nat × Ob)) (b k c : Nat) (r : List (List AV)) (l : List BM) (F : List (Nat × Ob)) : (p :: (A ++ mO b k c r (mObjs l F))).Perm (p :: mO b k c r (mObjs l (A ++ F))) := ((mO_back A ..).symm.trans (mO_perm (mObjs_back A l F))).cons p
theorem permD (A : List (Nat × Ob)) (b k c : Nat) (r : List (List AV)) (l : List BM) (F : List (Nat × Ob)) : (mO b k c r (mObjs l (A ++ F))).Perm (A ++ mO b k c r (mObjs l F)) := ((mO_back A ..).symm.trans (mO_perm (mObjs_back A l F))).symm
theorem own_cr (T : Tbl) (s : St) (hb : s.boxes.length ≤ 1000) (hm : ∀ y ∈ s.boxes, y.mails.length ≤ 1000) (hs : s.spool.length ≤ 1000) (A F : List (Nat × Ob)) (L : List Nat) : AC Tryd.prog T 66 [.agg (stateA s)] ⟨A ++ F, L⟩ (fun r h => ∃ (l : List BM) (bb cb u : Nat), bmB l = s.boxes ∧ (cb = 0 → l = []) ∧ freshT u L ∧ r = .ret (.agg [mA bb 3 cb l.length, .own u 6 (entsD s.spool)]) ∧ h = ⟨A ++ mO bb 3 cb (bmRows l) (mObjs l F), u :: L⟩) :=
  (own_c T s hb hm hs (A ++ F) L).leR fun x h' ⟨l, bb, cb, u, h1, h2, h3, h4, h5⟩ => ⟨_, by rw [h5]; exact LeH.pm (permD A ..), l, bb, cb, u, h1, h2, h3, h4, rfl⟩
theorem apply_c (T : Tbl) (s bb cb u : Nat) (sp : List Ent) (l : List BM) (x : Ent) (A F : List (Nat × Ob)) (L : List Nat) (hcb : cb = 0 → l = []) (hu : freshT u L) (inv : InvS ⟨bmB l, sp⟩) (hx : entE x = 0) : AC Tryd.prog T 68 [.ptr s 2 0 0, .agg (entA x)] ⟨(s, ⟨2, 1, [[mA bb 3 cb l.length, .own u 6 (entsD sp)]]⟩) :: (A ++ mO bb 3 cb (bmRows l) (mObjs l F)), u :: L⟩ (fun r h => ∃ (l2 : List BM) (sp2 : List Ent) (e : Int) (bb2 cb2 u2 : Nat), (cb2 = 0 → l2 = []) ∧ freshT u2 L ∧ apS ⟨bmB l, sp⟩ x = (⟨bmB l2, sp2⟩, e) ∧ r = .ret (.d (.int .i64 e)) ∧ h = ⟨(s, ⟨2, 1, [[mA bb2 3 cb2 l2.length, .own u2 6 (entsD sp2)]]⟩) :: (A ++ mO bb2 3 cb2 (bmRows l2) (mObjs l2 F)), u2 :: L⟩) := by
  have h0 := ent_0 hx
  have hsp : sp.length ≤ 20 := inv.sp
  have hbm := inv.bm
  refine AC.leH (LeH.pm (permC _ A ..)) ?_
  rcases Nat.eq_zero_or_pos cb with hz | hz
  · subst hz
    have hl := hcb rfl
    subst hl
    exact (ap0_c T s u sp x (A ++ F) L hu (by omega)).leR fun r h ⟨l2, sp2, e, bb2, cb2, u2, h1, h2, h3, h4, h5⟩ => ⟨_, by rw [h5]; exact LeH.pm (permC _ A ..).symm, l2, sp2, e, bb2, cb2, u2, h1, h2, h3, h4, rfl⟩
  · rw [mA_pos hz, mO_pos hz]
    refine (apM_c T s bb cb u sp l x (A ++ F) L hz hu hbm.1 hbm.2 (by omega) h0.2.2).leR fun r h ⟨l2, sp2, e, bb2, cb2, u2, h1, h2, h3, h4, h5⟩ => ⟨_, ?_, l2, sp2, e, bb2, cb2, u2, fun e => absurd e (by omega), h2, h3, h4, rfl⟩
    have := LeH.pm (L := u2 :: L) (permC (s, ⟨2, 1, [[mA bb2 3 cb2 l2.length, .own u2 6 (entsD sp2)]]⟩) A bb2 3 cb2 (bmRows l2) l2 F).symm
    rw [mO_pos h1] at this
    rw [h5, ← mA_pos h1 (b := bb2) (k := 3) (n := l2.length)]
    exact this
end Go.Proofs.YthhfbolhlbgbgaaDoor

/- Texts that the laws rest on, packed. -/
import Derived.Test.YthpkjmbdjnelfaaDoorGW
import Derived.Test.YthpkjmbdjnelfaaDoorGB
namespace Go.Proofs.YthpkjmbdjnelfaaDoor
set_option linter.unusedSimpArgs false
set_option linter.unusedVariables false
def btD (b : Bt) : List D := [.str b.text, .bool b.run, .bool b.quo, .bool b.apart]
def btsD (l : List Bt) : List (List D) := l.map btD
@[go_sem] theorem btsD_len (l : List Bt) : (btsD l).length = l.length := by simp [btsD]
def Short (l : List Bt) : Prop := ∀ x ∈ l, x.text.length ≤ 4096
theorem Short.at {l : List Bt} (h : Short l) {i : Nat} (hi : i < l.length) : (l[i]'hi).text.length ≤ 4096 := h _ (List.getElem_mem hi)
end Go.Proofs.YthpkjmbdjnelfaaDoor

namespace Go.Proofs.YthpkjmbdjnelfaaDoor
set_option linter.unusedSimpArgs false
set_option linter.unusedVariables false
end Go.Proofs.YthpkjmbdjnelfaaDoor

namespace Go.Proofs.YthpkjmbdjnelfaaDoor
set_option linter.unusedSimpArgs false
set_option linter.unusedVariables false
def adD (a : Ad) : List D := [.str a.1, .str a.2]
def adsD (l : List Ad) : List (List D) := l.map adD
@[go_sem] theorem adsD_len (l : List Ad) : (adsD l).length = l.length := by simp [adsD]
end Go.Proofs.YthpkjmbdjnelfaaDoor

namespace Go.Proofs.YthpkjmbdjnelfaaDoor
set_option linter.unusedSimpArgs false
set_option linter.unusedVariables false
def adsV (r : List Ad × Int) : AV := .tup [.d (.slc 2 (adsD r.1)), .d (.int .i64 r.2)]
theorem list1_none (T : Tbl) (b2 b3 : Nat) (h : AH) : ADefer Tryd.prog T 180 [.ptr b2 1 0 0, .ptr b3 1 0 0] h none (fun h' => h' = h) := by
  refine ADefer.enter (t0 := 3) (t1 := 2) Tryd.call180 Tryd.func180 rfl Tryd.ntmps180 Tryd.results180 rfl rfl rfl rfl rfl rfl rfl rfl trivial ?_
  simp only [go_sem, Option.getD]
  refine AWp.rs fun K1 hK1 => ?_
  try simp only [go_sem]
  refine hK1 _ _ ?_
  refine AWp.cond _ rfl (fun hc => ?_) (fun hc => ?_)
  · exact absurd hc (by simp)
  · exact AWp.skip rfl
theorem list1_some (T : Tbl) (b2 b3 : Nat) (x : AV) (y e : Int) (F : List (Nat × Ob)) (L : List Nat) (h23 : (b2 == b3) = false) : ADefer Tryd.prog T 180 [.ptr b2 1 0 0, .ptr b3 1 0 0] ⟨(b2, ⟨1, 1, [[x]]⟩) :: (b3, ⟨1, 1, [[.d (.int .i64 y)]]⟩) :: F, L⟩ (some (.ifc 30 (.d (.int .i64 e)))) (fun h' => h' = ⟨(b2, ⟨1, 1, [[.nils]]⟩) :: (b3, ⟨1, 1, [[.d (.int .i64 e)]]⟩) :: F, L⟩) := by
  refine ADefer.enter (t0 := 3) (t1 := 2) Tryd.call180 Tryd.func180 rfl Tryd.ntmps180 Tryd.results180 rfl rfl rfl rfl rfl rfl rfl rfl trivial ?_
  simp only [go_sem, Option.getD]
  refine AWp.rs fun K1 hK1 => ?_
  try simp only [go_sem]
  refine hK1 _ _ ?_
  refine AWp.cond _ rfl (fun hc => ?_) (fun hc => ?_)
  · refine AWp.dk true [0, 1, 2, 3] rfl (by kernel_rfl) fun K2 hK2 => ?_
    try simp only [go_sem, assertP, h23]
    refine hK2 _ _ ?_
    rfl
  · exact absurd hc (by simp)
theorem list_step {s : Tx} {j j1 j2 : Nat} {a : Ad} (hq : addrS true (s.drop j) = some (a, s.drop j1)) (hsk : s.drop j2 = skipS (s.drop j1)) : listS (s.drop j) = match s.drop j2 with | [] => some [a] | c :: q => if c = 44 then (listS q).map (a :: ·) else none := by
  rw [listS_some hq, ← hsk]
  rfl
theorem list_no {s : Tx} {j j1 j2 : Nat} {a : Ad} (hq : addrS true (s.drop j) = some (a, s.drop j1)) (hsk : s.drop j2 = skipS (s.drop j1)) (h1 : j2 < s.length) (h : (s.drop j2).head? ≠ some 44) : listS (s.drop j) = none := by
  rw [list_step hq hsk, drop_cons h1]
  rw [drop_cons h1] at h
  simp at h
  simp [h]
theorem list_more {s : Tx} {j j1 j2 : Nat} {a : Ad} (hq : addrS true (s.drop j) = some (a, s.drop j1)) (hsk : s.drop j2 = skipS (s.drop j1)) (hd : s.drop j2 = 44 :: s.drop (j2 + 1)) : listS (s.drop j) = (listS (s.drop (j2 + 1))).map (a :: ·) := by
  rw [list_step hq hsk, hd]; simp
theorem list_end {s : Tx} {j j1 j2 : Nat} {a : Ad} (hq : addrS true (s.drop j) = some (a, s.drop j1)) (hsk : s.drop j2 = skipS (s.drop j1)) (h1 : s.length ≤ j2) : listS (s.drop j) = some [a] := by
  rw [list_step hq hsk, drop_none h1]
theorem listR_no {s : Tx} (h : ¬ 2000 < s.length) (hn : listS s = none) : listR s = ([], 3) := by rw [listR, if_neg h, hn]
theorem listR_full {s : Tx} {l : List Ad} (h : ¬ 2000 < s.length) (hn : listS s = some l) (hl : 20 < l.length) : listR s = ([], 5) := by rw [listR, if_neg h, hn]; exact if_pos hl
theorem listR_ok {s : Tx} {l : List Ad} (h : ¬ 2000 < s.length) (hn : listS s = some l) (hl : ¬ 20 < l.length) : listR s = (l, 0) := by rw [listR, if_neg h, hn]; exact if_neg hl
set_option maxRecDepth 4000 in
set_option maxHeartbeats 1000000 in
theorem List_a (T : Tbl) (hL : LibT T) (s : Tx) : AC Tryd.prog T 147 [.d (.str s)] (⟨[], []⟩) (fun x _ => x = .ret (adsV (listR s))) := by
  refine ⟨Tryd.call147, ACalls.enterD Tryd.func147 rfl Tryd.ntmps147 rfl fun hb => ?_⟩
  simp only [go_sem, Tryd.results147]
  refine AWpD.seq fun K1 hK1 => ?_
  refine AWp.rk fun K2 hK2 => ?_
  try simp only [go_sem]
  intro b2
  first | intro fb2 | have fb2 := True.intro
  try simp only [freshL, wob] at fb2
  intro b3
  first | intro fb3 | have fb3 := True.intro
  try simp only [freshL, wob] at fb3
  refine hK2 _ _ ?_
  try clear hK2 K2
  refine thenQ_n ?_
  refine hK1 _ _ ?_
  try clear hK1 K1
  refine AWpD.seq fun K3 hK3 => ?_
  refine AWp.rs fun K4 hK4 => ?_
  try simp only [go_sem]
  refine hK4 _ _ ?_
  try clear hK4 K4
  refine AWp.cond _ rfl (fun hc0 => ?_) (fun hc0 => ?_)
  · skip
    try simp only [decide_eq_true_eq] at hc0
    refine AWp.rs fun K5 hK5 => ?_
    try simp only [go_sem, fb3]
    refine hK5 _ _ ?_
    try clear hK5 K5
    refine AWp.mask [false, true, true] rfl ?_
    simp only [go_sem]
    refine AWp.ret ?_
    try simp only [thenQ]
    simp only [endD]
    apply endW_r [b2, b3] [] [] [] (by (try simp only [go_sem, fb3]); rfl)
    · rfl
    · rw [listR, if_pos (by omega)]; simp [adsV, adsD, LeA, LeL, LeD]
  · skip
    try simp only [decide_eq_false_iff_not, Int.not_lt] at hc0
    have hs : s.length ≤ 4096 := by omega
    refine AWp.skip ?_
    refine thenQ_n ?_
    refine hK3 _ _ ?_
    try clear hK3 K3
    refine AWpD.defer rfl rfl rfl (by rw [mkS_len]; decide) rfl rfl ?_
    try simp only [go_sem]
    refine AWp.mask [true, true, true] rfl ?_
    simp only [go_sem]
    refine AWp.rs fun K6 hK6 => ?_
    try simp only [go_sem]
    intro b4
    first | intro fb4 | have fb4 := True.intro
    try simp only [freshL, wob] at fb4
    refine hK6 _ _ ?_
    try clear hK6 K6
    refine AWp.mask [false, true, true, true] rfl ?_
    simp only [go_sem]
    refine AWp.ownNilH b2 0 0 2 (by (try simp only [go_sem, fb3, fb4]); rfl) rfl rfl (by decide) fun t0 ft0 => ?_
    try simp only [freshT] at ft0
    simp only [go_sem, fb3, fb4]
    refine AWp.seq fun K7 hK7 => ?_
    refine AWp.block ?_
    refine AWp.loopS [true, true, true] [] (fun n lc hc => ∃ (j v : Nat) (Y : List Ad), n = s.length - j ∧ EqS lc [] ∧ EqS hc (⟨[wob b4 s j, (b3, ⟨1, 1, [[.d (.int .i64 0)]]⟩), (b2, ⟨1, 1, [[.own v 2 (adsD Y)]]⟩)], [v]⟩) ∧ (j ≤ s.length) ∧ (Y.length ≤ j) ∧ ((listS (s.drop j)).map (Y ++ ·) = listS s)) rfl ?_ ?_
    · refine ⟨_, 0, t0, [], rfl, ?_, ?_, ?_, ?_, ?_⟩
      · (try simp only [go_sem]) <;> first | exact ⟨rfl⟩ | (constructor; simp; done)
      · (try simp only [go_sem, wob]) <;> first | exact ⟨rfl⟩ | (constructor; simp [wob, adsD]; done)
      all_goals (first | omega | (simp; done) | (cases listS s <;> rfl))
    · rintro _ _ _ ⟨j, v, Y, rfl, ⟨rfl⟩, ⟨rfl⟩, h1, h2, h3⟩
      simp only [go_sem]
      refine AWp.block ?_
      refine AWp.dsC [(2, .ptr b2 1 0 0), (3, .ptr b3 1 0 0)] (AgK.mk2 rfl rfl rfl rfl) rfl [1] 0 [2, 3] [4, 5] rfl (by kernel_rfl) rfl fun K8 hK8 => ?_
      try simp only [go_sem, fb3, fb4]
      try with_reducible refine Exists.intro _ (And.intro (by first | rfl | (simp only [go_sem, wob, icast, fb2, fb3, fb4, ft0]; first | rfl | exact ⟨by omega, rfl⟩)) ?_)
      refine DW.acp [b4] [] rfl rfl rfl rfl (by (try simp only [go_sem, wob, fb4]); rfl) rfl (address_c T hL b4 s j _ _ (by omega) hs) ?_
      rintro _ _ (⟨hI9q, rfl, yI9, rfl⟩ | ⟨I9, a10, hI9a, hI9b, hq, rfl, rfl⟩)
      · skip
        intro _ hag
        refine endD_p [b4] [] [b2, b3] [] ?_
        simp only [go_sem, wob, fb3, fb4]
        refine (list1_some T b2 b3 _ _ _ _ _ (by simp only [fb3])).mono ?_
        rintro _ rfl
        refine dEnd_mk [] [] [] [] (by (try simp only [go_sem, fb3, hag.one, hag.tl.one]); rfl) rfl ?_
        rw [listR_no (by omega) (by rw [← h3, listS_none hI9q]; rfl)]
        simp [adsV, adsD, LeA, LeL, LeD]
      try simp only [go_sem, wob, fb3, fb4]
      try with_reducible refine And.intro (by first | rfl | (simp only [go_sem, wob, icast, fb2, fb3, fb4, ft0]; first | done | rfl | exact ⟨by omega, rfl⟩)) ?_
      refine lvc_ok _ _ _ ?_
      try simp only [go_sem, fb3, fb4]
      try with_reducible refine And.intro (by first | rfl | (simp only [go_sem, wob, icast, fb2, fb3, fb4, ft0]; first | done | rfl | exact ⟨by omega, rfl⟩)) ?_
      refine DW.app rfl rfl rfl rfl (show slI Tryd.prog 24 = some (23, 2, 32) by simp only [go_sem]) rfl rfl (by simp only [go_sem]) (by first | exact .inl rfl | exact .inr rfl) (by (try simp only [go_sem]); omega) (by (try simp only [go_sem]); omega) fun t1 ft1 => ?_
      try simp only [freshT] at ft1
      try simp only [go_sem, fb3, fb4]
      refine hK8 _ _ ?_
      try clear hK8 K8
      refine AWp.mask [true, true, true] rfl ?_
      simp only [go_sem]
      refine AWp.rsA [(2, .ptr b2 1 0 0), (3, .ptr b3 1 0 0)] (AgK.mk2 rfl rfl rfl rfl) rfl fun K11 hK11 => ?_
      try simp only [go_sem]
      refine DW.acp [b4] [] rfl rfl rfl rfl (by (try simp only [go_sem, wob, fb4]); rfl) rfl (skip_c T b4 s I9 _ _ (by omega) hs) ?_
      rintro _ _ ⟨I12, hI12a, hI12b, hI12c, rfl, rfl⟩
      try simp only [go_sem, wob]
      have hsk := hI12c
      refine hK11 _ _ ?_
      try clear hK11 K11
      refine AWp.seq fun K13 hK13 => ?_
      refine AWp.ds true [0, 1, 2, 3, 4, 5, 6, 7, 8, 9] rfl (by kernel_rfl) fun K14 hK14 => ?_
      try simp only [go_sem, fb4]
      refine hK14 _ _ ?_
      try clear hK14 K14
      refine AWp.mask [true, true, true, false, false, false, false, false, false, false, false, false, false, false, true] rfl ?_
      simp only [go_sem]
      refine AWp.cond _ rfl (fun hc1 => ?_) (fun hc1 => ?_)
      · skip
        try simp only [decide_eq_true_eq] at hc1
        have hS : listS s = some (Y ++ [a10]) := by rw [← h3, list_end hq hsk (by omega)]; rfl
        refine AWp.exit ?_
        refine thenQ_e (blkQ_d (by decide) (thenQ_e (blkQ_e (thenQ_n ?_))))
        refine hK7 _ _ ?_
        try clear hK7 K7
        refine AWp.seq fun K15 hK15 => ?_
        refine AWp.rs fun K16 hK16 => ?_
        try simp only [go_sem, fb3, fb4]
        refine hK16 _ _ ?_
        try clear hK16 K16
        refine AWp.mask [true, true, false, false, false, false, true] rfl ?_
        simp only [go_sem]
        refine AWp.cond _ rfl (fun hc2 => ?_) (fun hc2 => ?_)
        · skip
          try simp only [decide_eq_true_eq] at hc2
          refine AWp.rs fun K17 hK17 => ?_
          try simp only [go_sem, fb3, fb4]
          refine hK17 _ _ ?_
          try clear hK17 K17
          refine AWp.ret ?_
          try simp only [thenQ]
          refine endD_r [b4] [] [b2, b3] [] ?_
          try simp only [go_sem, fb3, fb4]
          refine (list1_none T b2 b3 _).mono ?_
          rintro _ rfl
          refine dEnd_mk [] [] [] [] (by (try simp only [go_sem, fb3]); rfl) rfl ?_
          rw [listR_full (by omega) hS (by simp [adsD] at hc2 ⊢; omega)]
          simp [adsV, adsD, LeA, LeL, LeD]
        · skip
          try simp only [decide_eq_false_iff_not, Int.not_lt] at hc2
          refine AWp.skip ?_
          refine thenQ_n ?_
          refine hK15 _ _ ?_
          try clear hK15 K15
          refine AWp.rs fun K18 hK18 => ?_
          try simp only [go_sem, fb3, fb4]
          refine hK18 _ _ ?_
          try clear hK18 K18
          refine AWp.ret ?_
          refine endD_r [b4] [] [b2, b3] [] ?_
          try simp only [go_sem, fb3, fb4]
          refine (list1_none T b2 b3 _).mono ?_
          rintro _ rfl
          refine dEnd_mk [] [] [] [] (by (try simp only [go_sem, fb3]); rfl) rfl ?_
          rw [listR_ok (by omega) hS (by simp [adsD] at hc2 ⊢; omega)]
          simp [adsV, adsD, adD, LeA, LeL, LeD]
      · skip
        try simp only [decide_eq_false_iff_not] at hc1
        have hne : I12 < s.length := by omega
        refine AWp.skip ?_
        refine thenQ_n ?_
        refine hK13 _ _ ?_
        try clear hK13 K13
        refine AWp.rsA [(2, .ptr b2 1 0 0), (3, .ptr b3 1 0 0)] (AgK.mk2 rfl rfl rfl rfl) rfl fun K19 hK19 => ?_
        try simp only [go_sem]
        refine DW.acp [b4] [] rfl rfl rfl rfl (by (try simp only [go_sem, wob, fb4]); rfl) rfl (next_c T b4 s I12 _ _ (by omega) hs) ?_
        rintro _ _ ⟨rfl, rfl⟩
        try simp only [go_sem, wob]
        refine DW.acp [] [] rfl rfl rfl rfl (by (try simp only [go_sem]); rfl) rfl (must_c T _ _) ?_
        rintro _ _ (⟨hm20, rfl, rfl⟩ | ⟨hm20, rfl, rfl⟩)
        · skip
          intro _ hag
          refine endD_p [b4] [] [b2, b3] [] ?_
          simp only [decide_eq_false_iff_not] at hm20
          simp only [go_sem, fb3, fb4]
          refine (list1_some T b2 b3 _ _ _ _ _ (by simp only [fb3])).mono ?_
          rintro _ rfl
          refine dEnd_mk [] [] [] [] (by (try simp only [go_sem, fb3, hag.one, hag.tl.one]); rfl) rfl ?_
          rw [listR_no (by omega) (by rw [← h3, list_no hq hsk hne (head_no (c := 44) rfl hm20)]; rfl)]
          simp [adsV, adsD, LeA, LeL, LeD]
        simp only [decide_eq_true_eq] at hm20
        obtain ⟨_, hd⟩ := head_is 44 rfl (by decide) hm20
        try simp only [go_sem]
        refine hK19 _ _ ?_
        try clear hK19 K19
        refine AWp.mask [true, true, true] rfl ?_
        simp only [go_sem]
        refine AWp.rk fun K21 hK21 => ?_
        try simp only [go_sem, icast, fb4]
        (repeat (with_reducible refine And.intro ?_ ?_; omega))
        refine hK21 _ _ ?_
        try clear hK21 K21
        refine blkQ_n (thenQ_n ?_)
        refine EndS.mk [true, true, true] [] [] [] [b4, b3, b2] [t1] rfl ?_ ?_
        · (try simp only [go_sem]) <;> try rfl
        refine .e ⟨_, ?_, (I12 + 1), t1, (Y ++ [a10]), rfl, ?_, ?_, ?_, ?_, ?_⟩
        · first | omega | (simp; omega) | (grind)
        · (try simp only [go_sem]) <;> first | exact ⟨rfl⟩ | (constructor; simp; done)
        · (try simp only [go_sem, fb3, fb4]) <;> first | exact ⟨rfl⟩ | (constructor; simp [adsD, adD]; done)
        · omega
        · simp; omega
        · rw [← h3, list_more hq hsk hd]; cases listS (s.drop (I12 + 1)) <;> simp
end Go.Proofs.YthpkjmbdjnelfaaDoor

namespace Go.Proofs.YthpkjmbdjnelfaaDoor
set_option linter.unusedSimpArgs false
set_option linter.unusedVariables false
theorem adsD_get (l : List Ad) (i : Nat) (d : List D) (h : i < l.length) : (adsD l).getD i d = adD (l[i]'h) := map_getD adD _ _ _ h
theorem List_c (T : Tbl) (hL : LibT T) (s : Tx) : PC Tryd.prog T 147 [.d (.str s)] (adsV (listR s)) := PC.of_ac (List_a T hL s) (by simp [adsV, LeA, LeL, LeD])
end Go.Proofs.YthpkjmbdjnelfaaDoor

/- Texts that the law RuleReads rests on, packed. -/
import Derived.Test.YtidldcfpmehpiaaGreatDoorGB
import Derived.Test.YtidldcfpmehpiaaGreatDoorRuleReadsK0
import Derived.Test.YtidldcfpmehpiaaGreatDoorGT
import Derived.Test.YtidldcfpmehpiaaGreatDoorGC
set_option linter.unusedSimpArgs false
set_option linter.unusedVariables false
set_option maxRecDepth 20000
set_option maxHeartbeats 4000000
namespace Go.Proofs.YtidldcfpmehpiaaGreatDoor
section
def namesE : List (List UInt8) → Int
 | [] => 0
 | s :: l => if ¬ s = fromT ∧ ¬ s = toT then 7 else namesE l
def sizeE : List (List UInt8) → Int
 | [] => 0
 | s :: l => if 100 < s.length then 1 else sizeE l
mutual
def tstE (ks : List (List UInt8)) : Tst → Int
 | .mk k _ _ ns ky _ _ kids => if k = 8 ∧ ¬ envT ∈ ks then 8 else if k = 8 ∧ ¬ namesE ns = 0 then 7 else if ¬ sizeE ns = 0 then 1 else if ¬ sizeE ky = 0 then 1 else tstEL ks kids
def tstEL (ks : List (List UInt8)) : List Tst → Int
 | [] => 0
 | t :: l => if ¬ tstE ks t = 0 then tstE ks t else tstEL ks l
end
theorem tstE_eq (ks : List (List UInt8)) (t : Tst) : tstE ks t = if t.kind = 8 ∧ ¬ envT ∈ ks then 8 else if t.kind = 8 ∧ ¬ namesE t.names = 0 then 7 else if ¬ sizeE t.names = 0 then 1 else if ¬ sizeE t.keys = 0 then 1 else tstEL ks t.kids := by cases t; rw [tstE]; rfl
theorem namesE_t {l : List (List UInt8)} {k : Nat} (h : k < l.length) (hc : ¬ l[k] = fromT ∧ ¬ l[k] = toT) : namesE (l.drop k) = 7 := by rw [List.drop_eq_getElem_cons h, namesE, if_pos hc]
theorem namesE_f {l : List (List UInt8)} {k : Nat} (h : k < l.length) (hc : ¬ (¬ l[k] = fromT ∧ ¬ l[k] = toT)) : namesE (l.drop k) = namesE (l.drop (k + 1)) := by rw [List.drop_eq_getElem_cons h, namesE, if_neg hc]
theorem namesE_e {l : List (List UInt8)} {k : Nat} (h : l.length ≤ k) : namesE (l.drop k) = 0 := by rw [List.drop_eq_nil_of_le h]; rfl
theorem sizeE_t {l : List (List UInt8)} {k : Nat} (h : k < l.length) (hc : 100 < (l[k]).length) : sizeE (l.drop k) = 1 := by rw [List.drop_eq_getElem_cons h, sizeE, if_pos hc]
theorem sizeE_f {l : List (List UInt8)} {k : Nat} (h : k < l.length) (hc : ¬ 100 < (l[k]).length) : sizeE (l.drop k) = sizeE (l.drop (k + 1)) := by rw [List.drop_eq_getElem_cons h, sizeE, if_neg hc]
theorem sizeE_e {l : List (List UInt8)} {k : Nat} (h : l.length ≤ k) : sizeE (l.drop k) = 0 := by rw [List.drop_eq_nil_of_le h]; rfl
theorem tstEL_t {ks : List (List UInt8)} {l : List Tst} {k : Nat} (h : k < l.length) (hc : ¬ tstE ks (l[k]) = 0) : tstEL ks (l.drop k) = tstE ks (l[k]) := by rw [List.drop_eq_getElem_cons h, tstEL, if_pos hc]
theorem tstEL_f {ks : List (List UInt8)} {l : List Tst} {k : Nat} (h : k < l.length) (hc : tstE ks (l[k]) = 0) : tstEL ks (l.drop k) = tstEL ks (l.drop (k + 1)) := by rw [List.drop_eq_getElem_cons h, tstEL, if_neg (fun h9 => h9 hc)]
theorem tstEL_e {ks : List (List UInt8)} {l : List Tst} {k : Nat} (h : l.length ≤ k) : tstEL ks (l.drop k) = 0 := by rw [List.drop_eq_nil_of_le h]; rfl
attribute [local go_sem] tstA icast8 strD tstD in
theorem jtest_s (T : Tbl) (bj t : Nat) (ks : List (List UInt8)) (tt : Tst) (ok : tt.Ok) (ih : ∀ y ∈ tt.kids, ∀ (F : List (Nat × Ob)) (L : List Nat), AC Tryz.prog T 199 [.ptr bj 1 0 0, .agg (tstA y)] ⟨(bj, ⟨1, 1, [[.mp t ks]]⟩) :: F, t :: L⟩ (fun x h => x = .ret (.d (.int .i64 (tstE ks y))) ∧ h = ⟨(bj, ⟨1, 1, [[.mp t ks]]⟩) :: F, t :: L⟩)) (F : List (Nat × Ob)) (L : List Nat) : AC Tryz.prog T 199 [.ptr bj 1 0 0, .agg (tstA tt)] (⟨(bj, ⟨1, 1, [[.mp t ks]]⟩) :: F, t :: L⟩) (fun x h => x = .ret (.d (.int .i64 (tstE ks tt))) ∧ h = ⟨(bj, ⟨1, 1, [[.mp t ks]]⟩) :: F, t :: L⟩) := by
 refine ⟨Tryz.call199, ACalls.enterS Tryz.func199 rfl Tryz.ntmps199 rfl fun hb => ?_⟩
 obtain ⟨s1, s2, s3, s4⟩ := ok.inv
 simp only [go_sem, Tryz.results199]
 refine Zx (Zy ?_)
 intro b3
 first | intro fb3 | have fb3 := True.intro
 try simp only [freshL] at fb3
 refine Zs (Zp 69 ?_)
 refine Zc (fun hc0 => ?_) fun hc0 => ?_
 ·
  refine Zs (Zx (Zy ?_))
  refine ZA [bj] [t] (need_c T bj t ks envT _ _) ?_
  rintro _ _ ⟨rfl, rfl⟩
  refine Zy ?_
  refine Zp 135 ?_
  refine Zc (fun hc1 => ?_) fun hc1 => ?_
  ·
   have he : tt.kind = 8 ∧ ¬ envT ∈ ks := ⟨hc0, fun h9 => hc1 (if_pos h9)⟩
   refine Zp 4 ?_
   refine AWp.ret ?_
   simp only [thenQ]
   apply endW_r [b3] [] [bj] [t] (by (try simp only [go_sem]); rfl)
   · rw [tstE_eq, if_pos he]
     exact ⟨rfl, by first | rfl | (simp only [go_sem, fb3]; done) | (simp only [go_sem, fb3]; rfl)⟩
   · simp [LeA, LeD, needE, he.2]
  have he : envT ∈ ks := Decidable.byContradiction fun h9 => by rw [needE, if_neg h9] at hc1; omega
  refine Zk ?_
  refine Zp 227 ?_
  refine AWp.block (Zy ?_)
  refine Zl 15 16 (fun n lc hc => ∃ (k : Nat), n = tt.names.length - k ∧ EqS lc [(26, .d (.int .i64 (k : Nat)))] ∧ EqS hc (⟨(bj, ⟨1, 1, [[.mp t ks]]⟩) :: (b3, ⟨8, 1, [[.d (.int .i64 tt.kind), .d (.int .i64 tt.mat), .d (.int .i64 tt.part), .d (.slc 1 (tt.names.map strD)), .d (.slc 1 (tt.keys.map strD)), .d (.bool tt.over), .d (.int .i64 tt.limit), .d (.slc 8 (kidsD tt))]]⟩) :: F, t :: L⟩) ∧ (k ≤ tt.names.length) ∧ (namesE tt.names = namesE (tt.names.drop k))) ?_ ?_
  · refine ⟨_, 0, rfl, ZE, ZE, ?_, ?_⟩
    all_goals (first | omega | rfl)
  rintro _ _ _ ⟨k, rfl, ⟨rfl⟩, ⟨rfl⟩, m1, m2⟩
  refine Zy ?_
  refine Zp 63 ?_
  refine Zs (Zc (fun hc2 => ?_) fun hc2 => ?_)
  ·
   have hlt : k < tt.names.length := by omega
   have hki : (k : Int) < (tt.names.length : Int) := by omega
   have zf1 := fun d0_ => map_getD strD tt.names k d0_ hlt
   refine Zk ?_
   refine Zs (AWp.block (Zp 63 ?_))
   refine Zp 2107 ?_
   refine Zc (fun hc3 => ?_) fun hc3 => ?_
   ·
    refine Zp 4 ?_
    refine AWp.ret ?_
    simp only [thenQ, blkQ]
    apply endW_r [b3] [] [bj] [t] (by (try simp only [go_sem]); rfl)
    · rw [tstE_eq, if_neg (fun h9 => h9.2 he), if_pos ⟨hc0, by rw [m2, namesE_t hlt hc3]; decide⟩]
      exact ⟨rfl, by first | rfl | (simp only [go_sem, fb3]; done) | (simp only [go_sem, fb3, zf1, hki]; rfl)⟩
    · simp [LeA, LeD]
   have hbad : ¬ (¬ tt.names[k] = fromT ∧ ¬ tt.names[k] = toT) := by rintro ⟨h8, h9⟩; first | exact hc3 ⟨h8, h9⟩ | exact hc3 h8 h9 | exact hc3.elim (fun h7 => h8 h7) (fun h7 => h9 h7) | (simp [h8, h9] at hc3)
   refine AWp.skip (blkQ_n (thenQ_n ?_))
   refine Zr (thenQ_n ?_)
   refine Ze 15 16 [] [] [bj, b3] [] (.e ⟨_, ZM, k + 1, rfl, ZE, ZE, ?_, ?_⟩)
   · omega
   · rw [m2, namesE_f hlt hbad]
  have hn : namesE tt.names = 0 := by rw [m2, namesE_e (by omega)]
  clear m1 m2
  refine AWp.exit (thenQ_e (thenQ_e (blkQ_e (thenQ_n ?_))))
  refine Zm 3 ?_
  refine Zs (Zp 195 ?_)
  refine Zy ?_
  refine AWp.ord [] [] [bj] [] (by (try simp only [go_sem, fb3]); rfl) ?_
  refine AWp.block (Zl 7 8 (fun n lc hc => ∃ (k : Nat), n = 2 - k ∧ EqS lc [(42, .d (.int .i64 (k : Nat)))] ∧ EqS hc (⟨(bj, ⟨1, 1, [[.mp t ks]]⟩) :: (b3, ⟨8, 1, [[.d (.int .i64 tt.kind), .d (.int .i64 tt.mat), .d (.int .i64 tt.part), .d (.slc 1 (tt.names.map strD)), .d (.slc 1 (tt.keys.map strD)), .d (.bool tt.over), .d (.int .i64 tt.limit), .d (.slc 8 (kidsD tt))]]⟩) :: F, t :: L⟩) ∧ (k ≤ 2) ∧ (1 ≤ k → sizeE tt.names = 0) ∧ (2 ≤ k → sizeE tt.keys = 0)) ?_ ?_)
  · refine ⟨_, 0, rfl, ZE, ZE, ?_, ?_, ?_⟩
    all_goals (first | omega | (intro h9; omega))
  rintro _ _ _ ⟨k, rfl, ⟨rfl⟩, ⟨rfl⟩, z0, z1, z2⟩
  refine Zy ?_
  refine Zp 31 ?_
  refine Zs (Zc (fun hc4 => ?_) fun hc4 => ?_)
  ·
   refine Zk ?_
   refine Zs (AWp.block ?_)
   obtain rfl | rfl : k = 0 ∨ k = 1 := by omega
   ·
    refine Zp 31 ?_
    refine Zp 251 ?_
    refine AWp.block (Zy ?_)
    refine Zl 63 64 (fun n lc hc => ∃ (q : Nat), n = tt.names.length - q ∧ EqS lc [(47, .d (.int .i64 (q : Nat)))] ∧ EqS hc (⟨(bj, ⟨1, 1, [[.mp t ks]]⟩) :: (b3, ⟨8, 1, [[.d (.int .i64 tt.kind), .d (.int .i64 tt.mat), .d (.int .i64 tt.part), .d (.slc 1 (tt.names.map strD)), .d (.slc 1 (tt.keys.map strD)), .d (.bool tt.over), .d (.int .i64 tt.limit), .d (.slc 8 (kidsD tt))]]⟩) :: F, t :: L⟩) ∧ (q ≤ tt.names.length) ∧ (sizeE tt.names = sizeE (tt.names.drop q))) ?_ ?_
    · refine ⟨_, 0, rfl, ZE, ZE, ?_, ?_⟩
      all_goals (first | omega | rfl)
    rintro _ _ _ ⟨q, rfl, ⟨rfl⟩, ⟨rfl⟩, m1, m2⟩
    refine Zy ?_
    refine Zp 255 ?_
    refine Zs (Zc (fun hc5 => ?_) fun hc5 => ?_)
    ·
     have hlt : q < tt.names.length := by omega
     have hqi : (q : Int) < (tt.names.length : Int) := by omega
     have zf2 := fun d0_ => map_getD strD tt.names q d0_ hlt
     refine Zk ?_
     refine Zs (AWp.block (Zp 255 ?_))
     refine Zp 1275 ?_
     refine Zc (fun hc6 => ?_) fun hc6 => ?_
     ·
      have hsz : ¬ sizeE tt.names = 0 := by rw [m2, sizeE_t hlt (by omega)]; decide
      refine Zp 4 ?_
      refine AWp.ret ?_
      simp only [thenQ, blkQ]
      apply endW_r [b3] [] [bj] [t] (by (try simp only [go_sem]); rfl)
      · rw [tstE_eq, if_neg (fun h9 => h9.2 he), if_neg (fun h9 => h9.2 hn), if_pos hsz]
        exact ⟨rfl, by first | rfl | (simp only [go_sem, fb3]; done) | (simp only [go_sem, fb3, zf2, hqi]; rfl)⟩
      · simp [LeA, LeD]
     have hs : ¬ 100 < (tt.names[q]).length := by omega
     refine AWp.skip (blkQ_n (thenQ_n ?_))
     refine Zr (thenQ_n ?_)
     refine Ze 63 64 [] [] [bj, b3] [] (.e ⟨_, ZM, q + 1, rfl, ZE, ZE, ?_, ?_⟩)
     · omega
     · rw [m2, sizeE_f hlt hs]
    have hsz : sizeE tt.names = 0 := by rw [m2, sizeE_e (by omega)]
    refine AWp.exit (thenQ_e (thenQ_e (blkQ_e (blkQ_n (thenQ_n ?_)))))
    refine Zm 15 ?_
    refine Zr (thenQ_n ?_)
    refine Ze 7 8 [] [] [bj, b3] [] (.e ⟨_, ZM, 1, rfl, ZE, ZE, ?_, ?_, ?_⟩)
    · omega
    · intro h9; exact hsz
    · intro h9; omega
   refine Zp 31 ?_
   refine Zp 251 ?_
   refine AWp.block (Zy ?_)
   refine Zl 63 64 (fun n lc hc => ∃ (q : Nat), n = tt.keys.length - q ∧ EqS lc [(47, .d (.int .i64 (q : Nat)))] ∧ EqS hc (⟨(bj, ⟨1, 1, [[.mp t ks]]⟩) :: (b3, ⟨8, 1, [[.d (.int .i64 tt.kind), .d (.int .i64 tt.mat), .d (.int .i64 tt.part), .d (.slc 1 (tt.names.map strD)), .d (.slc 1 (tt.keys.map strD)), .d (.bool tt.over), .d (.int .i64 tt.limit), .d (.slc 8 (kidsD tt))]]⟩) :: F, t :: L⟩) ∧ (q ≤ tt.keys.length) ∧ (sizeE tt.keys = sizeE (tt.keys.drop q))) ?_ ?_
   · refine ⟨_, 0, rfl, ZE, ZE, ?_, ?_⟩
     all_goals (first | omega | rfl)
   rintro _ _ _ ⟨q, rfl, ⟨rfl⟩, ⟨rfl⟩, m1, m2⟩
   refine Zy ?_
   refine Zp 255 ?_
   refine Zs (Zc (fun hc5 => ?_) fun hc5 => ?_)
   ·
    have hlt : q < tt.keys.length := by omega
    have hqi : (q : Int) < (tt.keys.length : Int) := by omega
    have zf3 := fun d0_ => map_getD strD tt.keys q d0_ hlt
    refine Zk ?_
    refine Zs (AWp.block (Zp 255 ?_))
    refine Zp 1275 ?_
    refine Zc (fun hc6 => ?_) fun hc6 => ?_
    ·
     have hsz : ¬ sizeE tt.keys = 0 := by rw [m2, sizeE_t hlt (by omega)]; decide
     refine Zp 4 ?_
     refine AWp.ret ?_
     simp only [thenQ, blkQ]
     apply endW_r [b3] [] [bj] [t] (by (try simp only [go_sem]); rfl)
     · rw [tstE_eq, if_neg (fun h9 => h9.2 he), if_neg (fun h9 => h9.2 hn), if_neg (fun h9 => h9 (z1 (by omega))), if_pos hsz]
       exact ⟨rfl, by first | rfl | (simp only [go_sem, fb3]; done) | (simp only [go_sem, fb3, zf3, hqi]; rfl)⟩
     · simp [LeA, LeD]
    have hs : ¬ 100 < (tt.keys[q]).length := by omega
    refine AWp.skip (blkQ_n (thenQ_n ?_))
    refine Zr (thenQ_n ?_)
    refine Ze 63 64 [] [] [bj, b3] [] (.e ⟨_, ZM, q + 1, rfl, ZE, ZE, ?_, ?_⟩)
    · omega
    · rw [m2, sizeE_f hlt hs]
   have hsz : sizeE tt.keys = 0 := by rw [m2, sizeE_e (by omega)]
   refine AWp.exit (thenQ_e (thenQ_e (blkQ_e (blkQ_n (thenQ_n ?_)))))
   refine Zm 15 ?_
   refine Zr (thenQ_n ?_)
   refine Ze 7 8 [] [] [bj, b3] [] (.e ⟨_, ZM, 2, rfl, ZE, ZE, ?_, ?_, ?_⟩)
   · omega
   · intro h9; exact z1 (by omega)
   · intro h9; exact hsz
  have hs1 := z1 (by omega)
  have hs2 := z2 (by omega)
  refine AWp.exit (thenQ_e (thenQ_e (blkQ_e (thenQ_n ?_))))
  refine Zs (Zp 449 ?_)
  refine AWp.block (Zy ?_)
  refine Zl 7 8 (fun n lc hc => ∃ (q : Nat), n = tt.kids.length - q ∧ EqS lc [(59, .d (.int .i64 (q : Nat)))] ∧ EqS hc (⟨(bj, ⟨1, 1, [[.mp t ks]]⟩) :: (b3, ⟨8, 1, [[.d (.int .i64 tt.kind), .d (.int .i64 tt.mat), .d (.int .i64 tt.part), .d (.slc 1 (tt.names.map strD)), .d (.slc 1 (tt.keys.map strD)), .d (.bool tt.over), .d (.int .i64 tt.limit), .d (.slc 8 (kidsD tt))]]⟩) :: F, t :: L⟩) ∧ (q ≤ tt.kids.length) ∧ (tstEL ks tt.kids = tstEL ks (tt.kids.drop q))) ?_ ?_
  · refine ⟨_, 0, rfl, ZE, ZE, ?_, ?_⟩
    all_goals (first | omega | rfl)
  rintro _ _ _ ⟨q, rfl, ⟨rfl⟩, ⟨rfl⟩, m3, m4⟩
  refine Zy ?_
  refine Zp 31 ?_
  refine Zs (Zc (fun hc7 => ?_) fun hc7 => ?_)
  ·
   have hlt : q < tt.kids.length := by omega
   have hqi : (q : Int) < (tt.kids.length : Int) := by omega
   have zf4 := fun d0_ => kidsD_get tt q d0_ hlt
   refine Zk ?_
   refine Zs (AWp.block (Zx ?_))
   simp only [go_sem, zf4, hqi]
   intro b13
   first | intro fb13 | have fb13 := True.intro
   try simp only [freshL] at fb13
   refine Zx ?_
   simp only [go_sem, fb13]
   refine ZA [bj] [t] (ih _ (List.getElem_mem hlt) _ _) ?_
   rintro _ _ ⟨rfl, rfl⟩
   refine Zy ?_
   refine Zm 61 ?_
   refine Zp 95 ?_
   refine Zc (fun hc8 => ?_) fun hc8 => ?_
   ·
    refine Zp 2 ?_
    refine AWp.ret ?_
    simp only [thenQ, blkQ]
    apply endW_r [b3, b13] [] [bj] [t] (by (try simp only [go_sem]); rfl)
    · rw [tstE_eq, if_neg (fun h9 => h9.2 he), if_neg (fun h9 => h9.2 hn), if_neg (fun h9 => h9 hs1), if_neg (fun h9 => h9 hs2), m4, tstEL_t hlt hc8]
      exact ⟨rfl, by first | rfl | (simp only [go_sem, fb3, fb13]; done) | (simp only [go_sem, fb3, zf4, hqi, fb13]; rfl)⟩
    · simp [LeA, LeD]
   have hz8 : tstE ks (tt.kids[q]) = 0 := by omega
   refine AWp.skip (blkQ_n (thenQ_n ?_))
   refine Zr (thenQ_n ?_)
   refine Ze 13 16 [b13] [] [bj, b3] [] (.e ⟨_, ZM, q + 1, rfl, ZE, ZE, ?_, ?_⟩)
   · omega
   · rw [m4, tstEL_f hlt hz8]
  refine AWp.exit (thenQ_e (thenQ_e (blkQ_e (thenQ_n ?_))))
  refine Zm 0 ?_
  refine Zp 1 ?_
  refine AWp.ret ?_
  apply endW_r [b3] [] [bj] [t] (by (try simp only [go_sem]); rfl)
  · rw [tstE_eq, if_neg (fun h9 => h9.2 he), if_neg (fun h9 => h9.2 hn), if_neg (fun h9 => h9 hs1), if_neg (fun h9 => h9 hs2), m4, tstEL_e (by omega)]
    exact ⟨rfl, by first | rfl | (simp only [go_sem, fb3]; done) | (simp only [go_sem, fb3]; rfl)⟩
  · simp [LeA, LeD]
 refine Zk ?_
 refine Zs (Zp 387 ?_)
 refine Zy ?_
 refine AWp.ord [] [] [bj] [] (by (try simp only [go_sem, fb3]); rfl) ?_
 refine AWp.block (Zl 7 8 (fun n lc hc => ∃ (k : Nat), n = 2 - k ∧ EqS lc [(42, .d (.int .i64 (k : Nat)))] ∧ EqS hc (⟨(bj, ⟨1, 1, [[.mp t ks]]⟩) :: (b3, ⟨8, 1, [[.d (.int .i64 tt.kind), .d (.int .i64 tt.mat), .d (.int .i64 tt.part), .d (.slc 1 (tt.names.map strD)), .d (.slc 1 (tt.keys.map strD)), .d (.bool tt.over), .d (.int .i64 tt.limit), .d (.slc 8 (kidsD tt))]]⟩) :: F, t :: L⟩) ∧ (k ≤ 2) ∧ (1 ≤ k → sizeE tt.names = 0) ∧ (2 ≤ k → sizeE tt.keys = 0)) ?_ ?_)
 · refine ⟨_, 0, rfl, ZE, ZE, ?_, ?_, ?_⟩
   all_goals (first | omega | (intro h9; omega))
 rintro _ _ _ ⟨k, rfl, ⟨rfl⟩, ⟨rfl⟩, z0, z1, z2⟩
 refine Zy ?_
 refine Zp 31 ?_
 refine Zs (Zc (fun hc4 => ?_) fun hc4 => ?_)
 ·
  refine Zk ?_
  refine Zs (AWp.block ?_)
  obtain rfl | rfl : k = 0 ∨ k = 1 := by omega
  ·
   refine Zp 31 ?_
   refine Zp 251 ?_
   refine AWp.block (Zy ?_)
   refine Zl 63 64 (fun n lc hc => ∃ (q : Nat), n = tt.names.length - q ∧ EqS lc [(47, .d (.int .i64 (q : Nat)))] ∧ EqS hc (⟨(bj, ⟨1, 1, [[.mp t ks]]⟩) :: (b3, ⟨8, 1, [[.d (.int .i64 tt.kind), .d (.int .i64 tt.mat), .d (.int .i64 tt.part), .d (.slc 1 (tt.names.map strD)), .d (.slc 1 (tt.keys.map strD)), .d (.bool tt.over), .d (.int .i64 tt.limit), .d (.slc 8 (kidsD tt))]]⟩) :: F, t :: L⟩) ∧ (q ≤ tt.names.length) ∧ (sizeE tt.names = sizeE (tt.names.drop q))) ?_ ?_
   · refine ⟨_, 0, rfl, ZE, ZE, ?_, ?_⟩
     all_goals (first | omega | rfl)
   rintro _ _ _ ⟨q, rfl, ⟨rfl⟩, ⟨rfl⟩, m1, m2⟩
   refine Zy ?_
   refine Zp 255 ?_
   refine Zs (Zc (fun hc5 => ?_) fun hc5 => ?_)
   ·
    have hlt : q < tt.names.length := by omega
    have hqi : (q : Int) < (tt.names.length : Int) := by omega
    have zf5 := fun d0_ => map_getD strD tt.names q d0_ hlt
    refine Zk ?_
    refine Zs (AWp.block (Zp 255 ?_))
    refine Zp 1275 ?_
    refine Zc (fun hc6 => ?_) fun hc6 => ?_
    ·
     have hsz : ¬ sizeE tt.names = 0 := by rw [m2, sizeE_t hlt (by omega)]; decide
     refine Zp 4 ?_
     refine AWp.ret ?_
     simp only [thenQ, blkQ]
     apply endW_r [b3] [] [bj] [t] (by (try simp only [go_sem]); rfl)
     · rw [tstE_eq, if_neg (fun h9 => hc0 h9.1), if_neg (fun h9 => hc0 h9.1), if_pos hsz]
       exact ⟨rfl, by first | rfl | (simp only [go_sem, fb3]; done) | (simp only [go_sem, fb3, zf5, hqi]; rfl)⟩
     · simp [LeA, LeD]
    have hs : ¬ 100 < (tt.names[q]).length := by omega
    refine AWp.skip (blkQ_n (thenQ_n ?_))
    refine Zr (thenQ_n ?_)
    refine Ze 63 64 [] [] [bj, b3] [] (.e ⟨_, ZM, q + 1, rfl, ZE, ZE, ?_, ?_⟩)
    · omega
    · rw [m2, sizeE_f hlt hs]
   have hsz : sizeE tt.names = 0 := by rw [m2, sizeE_e (by omega)]
   refine AWp.exit (thenQ_e (thenQ_e (blkQ_e (blkQ_n (thenQ_n ?_)))))
   refine Zm 15 ?_
   refine Zr (thenQ_n ?_)
   refine Ze 7 8 [] [] [bj, b3] [] (.e ⟨_, ZM, 1, rfl, ZE, ZE, ?_, ?_, ?_⟩)
   · omega
   · intro h9; exact hsz
   · intro h9; omega
  refine Zp 31 ?_
  refine Zp 251 ?_
  refine AWp.block (Zy ?_)
  refine Zl 63 64 (fun n lc hc => ∃ (q : Nat), n = tt.keys.length - q ∧ EqS lc [(47, .d (.int .i64 (q : Nat)))] ∧ EqS hc (⟨(bj, ⟨1, 1, [[.mp t ks]]⟩) :: (b3, ⟨8, 1, [[.d (.int .i64 tt.kind), .d (.int .i64 tt.mat), .d (.int .i64 tt.part), .d (.slc 1 (tt.names.map strD)), .d (.slc 1 (tt.keys.map strD)), .d (.bool tt.over), .d (.int .i64 tt.limit), .d (.slc 8 (kidsD tt))]]⟩) :: F, t :: L⟩) ∧ (q ≤ tt.keys.length) ∧ (sizeE tt.keys = sizeE (tt.keys.drop q))) ?_ ?_
  · refine ⟨_, 0, rfl, ZE, ZE, ?_, ?_⟩
    all_goals (first | omega | rfl)
  rintro _ _ _ ⟨q, rfl, ⟨rfl⟩, ⟨rfl⟩, m1, m2⟩
  refine Zy ?_
  refine Zp 255 ?_
  refine Zs (Zc (fun hc5 => ?_) fun hc5 => ?_)
  ·
   have hlt : q < tt.keys.length := by omega
   have hqi : (q : Int) < (tt.keys.length : Int) := by omega
   have zf6 := fun d0_ => map_getD strD tt.keys q d0_ hlt
   refine Zk ?_
   refine Zs (AWp.block (Zp 255 ?_))
   refine Zp 1275 ?_
   refine Zc (fun hc6 => ?_) fun hc6 => ?_
   ·
    have hsz : ¬ sizeE tt.keys = 0 := by rw [m2, sizeE_t hlt (by omega)]; decide
    refine Zp 4 ?_
    refine AWp.ret ?_
    simp only [thenQ, blkQ]
    apply endW_r [b3] [] [bj] [t] (by (try simp only [go_sem]); rfl)
    · rw [tstE_eq, if_neg (fun h9 => hc0 h9.1), if_neg (fun h9 => hc0 h9.1), if_neg (fun h9 => h9 (z1 (by omega))), if_pos hsz]
      exact ⟨rfl, by first | rfl | (simp only [go_sem, fb3]; done) | (simp only [go_sem, fb3, zf6, hqi]; rfl)⟩
    · simp [LeA, LeD]
   have hs : ¬ 100 < (tt.keys[q]).length := by omega
   refine AWp.skip (blkQ_n (thenQ_n ?_))
   refine Zr (thenQ_n ?_)
   refine Ze 63 64 [] [] [bj, b3] [] (.e ⟨_, ZM, q + 1, rfl, ZE, ZE, ?_, ?_⟩)
   · omega
   · rw [m2, sizeE_f hlt hs]
  have hsz : sizeE tt.keys = 0 := by rw [m2, sizeE_e (by omega)]
  refine AWp.exit (thenQ_e (thenQ_e (blkQ_e (blkQ_n (thenQ_n ?_)))))
  refine Zm 15 ?_
  refine Zr (thenQ_n ?_)
  refine Ze 7 8 [] [] [bj, b3] [] (.e ⟨_, ZM, 2, rfl, ZE, ZE, ?_, ?_, ?_⟩)
  · omega
  · intro h9; exact z1 (by omega)
  · intro h9; exact hsz
 have hs1 := z1 (by omega)
 have hs2 := z2 (by omega)
 refine AWp.exit (thenQ_e (thenQ_e (blkQ_e (thenQ_n ?_))))
 refine Zs (Zp 449 ?_)
 refine AWp.block (Zy ?_)
 refine Zl 7 8 (fun n lc hc => ∃ (q : Nat), n = tt.kids.length - q ∧ EqS lc [(59, .d (.int .i64 (q : Nat)))] ∧ EqS hc (⟨(bj, ⟨1, 1, [[.mp t ks]]⟩) :: (b3, ⟨8, 1, [[.d (.int .i64 tt.kind), .d (.int .i64 tt.mat), .d (.int .i64 tt.part), .d (.slc 1 (tt.names.map strD)), .d (.slc 1 (tt.keys.map strD)), .d (.bool tt.over), .d (.int .i64 tt.limit), .d (.slc 8 (kidsD tt))]]⟩) :: F, t :: L⟩) ∧ (q ≤ tt.kids.length) ∧ (tstEL ks tt.kids = tstEL ks (tt.kids.drop q))) ?_ ?_
 · refine ⟨_, 0, rfl, ZE, ZE, ?_, ?_⟩
   all_goals (first | omega | rfl)
 rintro _ _ _ ⟨q, rfl, ⟨rfl⟩, ⟨rfl⟩, m3, m4⟩
 refine Zy ?_
 refine Zp 31 ?_
 refine Zs (Zc (fun hc7 => ?_) fun hc7 => ?_)
 ·
  have hlt : q < tt.kids.length := by omega
  have hqi : (q : Int) < (tt.kids.length : Int) := by omega
  have zf7 := fun d0_ => kidsD_get tt q d0_ hlt
  refine Zk ?_
  refine Zs (AWp.block (Zx ?_))
  simp only [go_sem, zf7, hqi]
  intro b13
  first | intro fb13 | have fb13 := True.intro
  try simp only [freshL] at fb13
  refine Zx ?_
  simp only [go_sem, fb13]
  refine ZA [bj] [t] (ih _ (List.getElem_mem hlt) _ _) ?_
  rintro _ _ ⟨rfl, rfl⟩
  refine Zy ?_
  refine Zm 61 ?_
  refine Zp 95 ?_
  refine Zc (fun hc8 => ?_) fun hc8 => ?_
  ·
   refine Zp 2 ?_
   refine AWp.ret ?_
   simp only [thenQ, blkQ]
   apply endW_r [b3, b13] [] [bj] [t] (by (try simp only [go_sem]); rfl)
   · rw [tstE_eq, if_neg (fun h9 => hc0 h9.1), if_neg (fun h9 => hc0 h9.1), if_neg (fun h9 => h9 hs1), if_neg (fun h9 => h9 hs2), m4, tstEL_t hlt hc8]
     exact ⟨rfl, by first | rfl | (simp only [go_sem, fb3, fb13]; done) | (simp only [go_sem, fb3, zf7, hqi, fb13]; rfl)⟩
   · simp [LeA, LeD]
  have hz8 : tstE ks (tt.kids[q]) = 0 := by omega
  refine AWp.skip (blkQ_n (thenQ_n ?_))
  refine Zr (thenQ_n ?_)
  refine Ze 13 16 [b13] [] [bj, b3] [] (.e ⟨_, ZM, q + 1, rfl, ZE, ZE, ?_, ?_⟩)
  · omega
  · rw [m4, tstEL_f hlt hz8]
 refine AWp.exit (thenQ_e (thenQ_e (blkQ_e (thenQ_n ?_))))
 refine Zm 0 ?_
 refine Zp 1 ?_
 refine AWp.ret ?_
 apply endW_r [b3] [] [bj] [t] (by (try simp only [go_sem]); rfl)
 · rw [tstE_eq, if_neg (fun h9 => hc0 h9.1), if_neg (fun h9 => hc0 h9.1), if_neg (fun h9 => h9 hs1), if_neg (fun h9 => h9 hs2), m4, tstEL_e (by omega)]
   exact ⟨rfl, by first | rfl | (simp only [go_sem, fb3]; done) | (simp only [go_sem, fb3]; rfl)⟩
 · simp [LeA, LeD]
end
section
theorem jtest_c (T : Tbl) (bj t : Nat) (ks : List (List UInt8)) (tt : Tst) (ok : tt.Ok) (F : List (Nat × Ob)) (L : List Nat) : AC Tryz.prog T 199 [.ptr bj 1 0 0, .agg (tstA tt)] ⟨(bj, ⟨1, 1, [[.mp t ks]]⟩) :: F, t :: L⟩ (fun x h => x = .ret (.d (.int .i64 (tstE ks tt))) ∧ h = ⟨(bj, ⟨1, 1, [[.mp t ks]]⟩) :: F, t :: L⟩) := by
 induction tt using Tst.ind generalizing F L with
 | h tt ih => exact jtest_s T bj t ks tt ok (fun y hy F L => ih y hy (ok.inv.2.2.2 y hy) F L) F L
def NotB {α : Type} (l : List α) (a : α) (k : Nat) : Prop := ∀ (j : Nat) (h : j < l.length), j < k → ¬ l[j] = a
theorem NotB.s {α : Type} {l : List α} {a : α} {k : Nat} (h : k < l.length) (H : NotB l a k) (hc : ¬ l[k] = a) : NotB l a (k + 1) := fun j hj hk => by
 rcases Nat.lt_or_ge j k with h9 | h9
 ·exact H j hj h9
 ·obtain rfl : j = k := by omega
  exact hc
theorem NotB.e {α : Type} {l : List α} {a : α} {k : Nat} (H : NotB l a k) (h : l.length ≤ k) : ¬ a ∈ l := fun h9 => by
 obtain ⟨i, h8, h7⟩ := List.mem_iff_getElem.1 h9
 exact H i h8 (by omega) h7
attribute [local go_sem] icast8 strD in
theorem required_c (T : Tbl) (ks : List (List UInt8)) (s : List UInt8) (hl : ks.length ≤ 1048576) : PC Tryz.prog T 120 [.d (.slc 1 (ks.map strD)), .d (.str s)] (.d (.int .i64 (needE ks s))) := by
 refine ⟨Tryz.call120, PCall.enterS Tryz.func120 rfl Tryz.ntmps120 rfl fun hb => ?_⟩
 simp only [go_sem, Tryz.results120]
 refine Zp 3 ?_
 refine Zs (Zp 7 ?_)
 refine AWp.block (Zy ?_)
 refine Zl 3 4 (fun n lc hc => ∃ (k : Nat), n = ks.length - k ∧ EqS lc [(5, .d (.int .i64 (k : Nat)))] ∧ EqS hc (⟨[], []⟩) ∧ (k ≤ ks.length) ∧ (NotB ks s k)) ?_ ?_
 · refine ⟨_, 0, rfl, ZE, ZE, ?_, ?_⟩
   all_goals (first | omega | exact fun j h h9 => absurd h9 (by omega))
 rintro _ _ _ ⟨k, rfl, ⟨rfl⟩, ⟨rfl⟩, h1, h2⟩
 refine Zy ?_
 refine Zs (Zp 71 ?_)
 refine Zc (fun hc0 => ?_) fun hc0 => ?_
 ·
  have hlt : k < ks.length := by omega
  have hki : (k : Int) < (ks.length : Int) := by omega
  have zf1 := fun d0_ => map_getD strD ks k d0_ hlt
  refine Zk ?_
  refine Zs (AWp.block (Zp 519 ?_))
  refine Zc (fun hc1 => ?_) fun hc1 => ?_
  ·
   refine Zp 4 ?_
   refine AWp.ret ?_
   simp only [go_sem]
   have hm : s ∈ ks := hc1 ▸ List.getElem_mem hlt
   simp [needE, hm]
  refine AWp.skip (blkQ_n (thenQ_n ?_))
  refine Zr (thenQ_n ?_)
  refine Zf 3 4 (.e ⟨_, ZM, k + 1, rfl, ZE, ZE, ?_, ?_⟩)
  · omega
  · exact h2.s hlt hc1
 refine AWp.exit (thenQ_e (thenQ_e (blkQ_e (thenQ_n ?_))))
 refine Zm 0 ?_
 refine Zp 1 ?_
 refine AWp.ret ?_
 simp only [go_sem]
 have hm := h2.e (by omega)
 simp [needE, hm]
attribute [local go_sem] tstA icast8 decide_true strD tstD decide_false in
theorem tallow_s (T : Tbl) (ks : List (List UInt8)) (hkn : ks.length ≤ 1048576) (tt : Tst) (ok : tt.Ok) (ih : ∀ y ∈ tt.kids, PC Tryz.prog T 119 [.d (.slc 1 (ks.map strD)), .agg (tstA y)] (.d (.int .i64 (tstE ks y)))) : PC Tryz.prog T 119 [.d (.slc 1 (ks.map strD)), .agg (tstA tt)] (.d (.int .i64 (tstE ks tt))) := by
 refine ⟨Tryz.call119, PCall.enterS Tryz.func119 rfl Tryz.ntmps119 rfl fun hb => ?_⟩
 obtain ⟨s1, s2, s3, s4⟩ := ok.inv
 simp only [go_sem, Tryz.results119]
 refine Zx (Zy ?_)
 intro b3
 first | intro fb3 | have fb3 := True.intro
 try simp only [freshL] at fb3
 refine Zs (Zp 69 ?_)
 refine Zc (fun hc0 => ?_) fun hc0 => ?_
 ·
  refine Zx (Zy ?_)
  refine ZP (required_c T ks _ hkn) ?_
  refine Zy ?_
  refine Zs (Zp 15 ?_)
  refine AWp.block (Zy ?_)
  refine Zl 3 12 (fun n lc hc => ∃ (k : Nat) (e : Int), n = tt.names.length - k ∧ EqS lc [(5, .d (.int .i64 e)), (6, .d (.int .i64 (k : Nat)))] ∧ EqS hc (⟨[(b3, ⟨8, 1, [[.d (.int .i64 tt.kind), .d (.int .i64 tt.mat), .d (.int .i64 tt.part), .d (.slc 1 (tt.names.map strD)), .d (.slc 1 (tt.keys.map strD)), .d (.bool tt.over), .d (.int .i64 tt.limit), .d (.slc 8 (kidsD tt))]]⟩)], []⟩) ∧ (k ≤ tt.names.length) ∧ ((e = 0 ∧ envT ∈ ks ∧ namesE tt.names = namesE (tt.names.drop k)) ∨ (e = 8 ∧ ¬ envT ∈ ks) ∨ (e = 7 ∧ envT ∈ ks ∧ ¬ namesE tt.names = 0))) ?_ ?_
  · refine ⟨_, 0, needE ks envT, rfl, ZE, ZE, ?_, ?_⟩
    all_goals (first | omega | (by_cases h9 : envT ∈ ks; exact .inl ⟨if_pos h9, h9, rfl⟩; exact .inr (.inl ⟨if_neg h9, h9⟩)))
  rintro _ _ _ ⟨k, e, rfl, ⟨rfl⟩, ⟨rfl⟩, m1, m2⟩
  refine Zy ?_
  refine Zs ?_
  rcases Nat.lt_or_ge k tt.names.length with hkl | hkl
  ·
   have hkL : ((k : Int) < (tt.names.length : Int)) = True := by simp; omega
   refine Zp 4111 ?_
   refine Zc (fun hc1 => ?_) fun hc1 => ?_
   ·
    have hlt := hkl
    have hki : (k : Int) < (tt.names.length : Int) := by omega
    have he0 : e = 0 := by first | exact hc1 | exact hc1.2
    have m3 : envT ∈ ks ∧ namesE tt.names = namesE (tt.names.drop k) := by rcases m2 with ⟨_, y2, y3⟩ | ⟨y1, _⟩ | ⟨y1, _⟩; exact ⟨y2, y3⟩; omega; omega
    have zf1 := fun d0_ => map_getD strD tt.names k d0_ hlt
    refine Zk ?_
    refine Zs (AWp.block (Zp 262159 ?_))
    refine Zc (fun hc2 => ?_) fun hc2 => ?_
    ·
     refine Zr (blkQ_n (thenQ_n ?_))
     refine Zr (thenQ_n ?_)
     refine Ze 3 12 [] [] [b3] [] (.e ⟨_, ZM, k + 1, 7, rfl, ZE, ZE, ?_, ?_⟩)
     · omega
     · exact .inr (.inr ⟨rfl, m3.1, by rw [m3.2, namesE_t hlt hc2]; decide⟩)
    have hbad : ¬ (¬ tt.names[k] = fromT ∧ ¬ tt.names[k] = toT) := by rintro ⟨h8, h9⟩; first | exact hc2 ⟨h8, h9⟩ | exact hc2 h8 h9 | exact hc2.elim (fun h7 => h8 h7) (fun h7 => h9 h7) | (simp [h8, h9] at hc2)
    refine AWp.skip (blkQ_n (thenQ_n ?_))
    refine Zr (thenQ_n ?_)
    refine Ze 3 12 [] [] [b3] [] (.e ⟨_, ZM, k + 1, e, rfl, ZE, ZE, ?_, ?_⟩)
    · omega
    · exact .inl ⟨he0, m3.1, by rw [m3.2, namesE_f hlt hbad]⟩
   refine AWp.exit (thenQ_e (thenQ_e (blkQ_e (thenQ_n ?_))))
   refine Zp 71 ?_
   refine Zc (fun hc3 => ?_) fun hc3 => ?_
   ·
    refine Zp 4 ?_
    refine AWp.ret ?_
    simp only [go_sem]
    have hv : tstE ks tt = e := by
      rcases m2 with ⟨y1, _⟩ | ⟨y1, y2⟩ | ⟨y1, y2, y3⟩
      · exact absurd y1 hc3
      · rw [tstE_eq, if_pos ⟨hc0, y2⟩, y1]
      · rw [tstE_eq, if_neg (fun h9 => h9.2 y2), if_pos ⟨hc0, y3⟩, y1]
    rw [hv]; try simp [LeA, LeD]
   have m4 : envT ∈ ks ∧ namesE tt.names = namesE (tt.names.drop k) := by rcases m2 with ⟨_, y2, y3⟩ | ⟨y1, _⟩ | ⟨y1, _⟩; exact ⟨y2, y3⟩; omega; omega
   have he := m4.1
   have hn : namesE tt.names = 0 := by rw [m4.2, namesE_e (by omega)]
   clear m1 m2
   refine Zk ?_
   refine Zs (Zp 11 ?_)
   refine AWp.block (Zy ?_)
   refine Zl 3 4 (fun n lc hc => ∃ (q : Nat), n = tt.names.length - q ∧ EqS lc [(7, .d (.int .i64 (q : Nat)))] ∧ EqS hc (⟨[(b3, ⟨8, 1, [[.d (.int .i64 tt.kind), .d (.int .i64 tt.mat), .d (.int .i64 tt.part), .d (.slc 1 (tt.names.map strD)), .d (.slc 1 (tt.keys.map strD)), .d (.bool tt.over), .d (.int .i64 tt.limit), .d (.slc 8 (kidsD tt))]]⟩)], []⟩) ∧ (q ≤ tt.names.length) ∧ (sizeE tt.names = sizeE (tt.names.drop q))) ?_ ?_
   · refine ⟨_, 0, rfl, ZE, ZE, ?_, ?_⟩
     all_goals (first | omega | rfl)
   rintro _ _ _ ⟨q, rfl, ⟨rfl⟩, ⟨rfl⟩, m1, m2⟩
   refine Zy ?_
   refine Zs (Zp 135 ?_)
   refine Zc (fun hc4 => ?_) fun hc4 => ?_
   ·
    have hlt : q < tt.names.length := by omega
    have hqi : (q : Int) < (tt.names.length : Int) := by omega
    have zf2 := fun d0_ => map_getD strD tt.names q d0_ hlt
    refine Zk ?_
    refine Zs (AWp.block (Zp 1031 ?_))
    refine Zc (fun hc5 => ?_) fun hc5 => ?_
    ·
     have hsz : ¬ sizeE tt.names = 0 := by rw [m2, sizeE_t hlt (by omega)]; decide
     refine Zp 4 ?_
     refine AWp.ret ?_
     simp only [go_sem]
     rw [tstE_eq, if_neg (fun h9 => h9.2 he), if_neg (fun h9 => h9.2 hn), if_pos hsz]; try simp [LeA, LeD]
    have hs : ¬ 100 < (tt.names[q]).length := by omega
    refine AWp.skip (blkQ_n (thenQ_n ?_))
    refine Zr (thenQ_n ?_)
    refine Ze 3 4 [] [] [b3] [] (.e ⟨_, ZM, q + 1, rfl, ZE, ZE, ?_, ?_⟩)
    · omega
    · rw [m2, sizeE_f hlt hs]
   have hs1 : sizeE tt.names = 0 := by rw [m2, sizeE_e (by omega)]
   clear m1 m2
   refine AWp.exit (thenQ_e (thenQ_e (blkQ_e (thenQ_n ?_))))
   refine Zs (Zp 11 ?_)
   refine AWp.block (Zy ?_)
   refine Zl 3 4 (fun n lc hc => ∃ (q : Nat), n = tt.keys.length - q ∧ EqS lc [(8, .d (.int .i64 (q : Nat)))] ∧ EqS hc (⟨[(b3, ⟨8, 1, [[.d (.int .i64 tt.kind), .d (.int .i64 tt.mat), .d (.int .i64 tt.part), .d (.slc 1 (tt.names.map strD)), .d (.slc 1 (tt.keys.map strD)), .d (.bool tt.over), .d (.int .i64 tt.limit), .d (.slc 8 (kidsD tt))]]⟩)], []⟩) ∧ (q ≤ tt.keys.length) ∧ (sizeE tt.keys = sizeE (tt.keys.drop q))) ?_ ?_
   · refine ⟨_, 0, rfl, ZE, ZE, ?_, ?_⟩
     all_goals (first | omega | rfl)
   rintro _ _ _ ⟨q, rfl, ⟨rfl⟩, ⟨rfl⟩, m1, m2⟩
   refine Zy ?_
   refine Zs (Zp 135 ?_)
   refine Zc (fun hc6 => ?_) fun hc6 => ?_
   ·
    have hlt : q < tt.keys.length := by omega
    have hqi : (q : Int) < (tt.keys.length : Int) := by omega
    have zf3 := fun d0_ => map_getD strD tt.keys q d0_ hlt
    refine Zk ?_
    refine Zs (AWp.block (Zp 1031 ?_))
    refine Zc (fun hc7 => ?_) fun hc7 => ?_
    ·
     have hsz : ¬ sizeE tt.keys = 0 := by rw [m2, sizeE_t hlt (by omega)]; decide
     refine Zp 4 ?_
     refine AWp.ret ?_
     simp only [go_sem]
     rw [tstE_eq, if_neg (fun h9 => h9.2 he), if_neg (fun h9 => h9.2 hn), if_neg (fun h9 => h9 hs1), if_pos hsz]; try simp [LeA, LeD]
    have hs : ¬ 100 < (tt.keys[q]).length := by omega
    refine AWp.skip (blkQ_n (thenQ_n ?_))
    refine Zr (thenQ_n ?_)
    refine Ze 3 4 [] [] [b3] [] (.e ⟨_, ZM, q + 1, rfl, ZE, ZE, ?_, ?_⟩)
    · omega
    · rw [m2, sizeE_f hlt hs]
   have hs2 : sizeE tt.keys = 0 := by rw [m2, sizeE_e (by omega)]
   clear m1 m2
   refine AWp.exit (thenQ_e (thenQ_e (blkQ_e (thenQ_n ?_))))
   refine Zs (Zp 11 ?_)
   refine AWp.block (Zy ?_)
   refine Zl 3 4 (fun n lc hc => ∃ (q : Nat), n = tt.kids.length - q ∧ EqS lc [(9, .d (.int .i64 (q : Nat)))] ∧ EqS hc (⟨[(b3, ⟨8, 1, [[.d (.int .i64 tt.kind), .d (.int .i64 tt.mat), .d (.int .i64 tt.part), .d (.slc 1 (tt.names.map strD)), .d (.slc 1 (tt.keys.map strD)), .d (.bool tt.over), .d (.int .i64 tt.limit), .d (.slc 8 (kidsD tt))]]⟩)], []⟩) ∧ (q ≤ tt.kids.length) ∧ (tstEL ks tt.kids = tstEL ks (tt.kids.drop q))) ?_ ?_
   · refine ⟨_, 0, rfl, ZE, ZE, ?_, ?_⟩
     all_goals (first | omega | rfl)
   rintro _ _ _ ⟨q, rfl, ⟨rfl⟩, ⟨rfl⟩, m3, m4⟩
   refine Zy ?_
   refine Zs (Zp 135 ?_)
   refine Zc (fun hc8 => ?_) fun hc8 => ?_
   ·
    have hlt : q < tt.kids.length := by omega
    have hqi : (q : Int) < (tt.kids.length : Int) := by omega
    have zf4 := fun d0_ => kidsD_get tt q d0_ hlt
    refine Zk ?_
    refine Zs (AWp.block (Zx ?_))
    simp only [go_sem, zf4, hqi]
    refine ZP (ih _ (List.getElem_mem hlt)) ?_
    refine Zy ?_
    refine Zm 15 ?_
    refine Zp 47 ?_
    refine Zc (fun hc9 => ?_) fun hc9 => ?_
    ·
     refine Zp 4 ?_
     refine AWp.ret ?_
     simp only [go_sem]
     rw [tstE_eq ks tt, if_neg (fun h9 => h9.2 he), if_neg (fun h9 => h9.2 hn), if_neg (fun h9 => h9 hs1), if_neg (fun h9 => h9 hs2), m4, tstEL_t hlt hc9]; try simp [LeA, LeD]
    have hz8 : tstE ks (tt.kids[q]) = 0 := by omega
    refine AWp.skip (blkQ_n (thenQ_n ?_))
    refine Zr (thenQ_n ?_)
    refine Ze 3 4 [] [] [b3] [] (.e ⟨_, ZM, q + 1, rfl, ZE, ZE, ?_, ?_⟩)
    · omega
    · rw [m4, tstEL_f hlt hz8]
   refine AWp.exit (thenQ_e (thenQ_e (blkQ_e (thenQ_n ?_))))
   refine Zm 0 ?_
   refine Zp 1 ?_
   refine AWp.ret ?_
   simp only [go_sem]
   rw [tstE_eq, if_neg (fun h9 => h9.2 he), if_neg (fun h9 => h9.2 hn), if_neg (fun h9 => h9 hs1), if_neg (fun h9 => h9 hs2), m4, tstEL_e (by omega)]; try simp [LeA, LeD]
  have hkL : ((k : Int) < (tt.names.length : Int)) = False := by simp; omega
  refine Zp 4111 ?_
  refine Zc (fun hc1 => ?_) fun hc1 => ?_
  ·
   exact absurd hc1 (by first | (simp; done) | omega | (simp [*]; done))
  refine AWp.exit (thenQ_e (thenQ_e (blkQ_e (thenQ_n ?_))))
  refine Zp 71 ?_
  refine Zc (fun hc3 => ?_) fun hc3 => ?_
  ·
   refine Zp 4 ?_
   refine AWp.ret ?_
   simp only [go_sem]
   have hv : tstE ks tt = e := by
     rcases m2 with ⟨y1, _⟩ | ⟨y1, y2⟩ | ⟨y1, y2, y3⟩
     · exact absurd y1 hc3
     · rw [tstE_eq, if_pos ⟨hc0, y2⟩, y1]
     · rw [tstE_eq, if_neg (fun h9 => h9.2 y2), if_pos ⟨hc0, y3⟩, y1]
   rw [hv]; try simp [LeA, LeD]
  have m4 : envT ∈ ks ∧ namesE tt.names = namesE (tt.names.drop k) := by rcases m2 with ⟨_, y2, y3⟩ | ⟨y1, _⟩ | ⟨y1, _⟩; exact ⟨y2, y3⟩; omega; omega
  have he := m4.1
  have hn : namesE tt.names = 0 := by rw [m4.2, namesE_e (by omega)]
  clear m1 m2
  refine Zk ?_
  refine Zs (Zp 11 ?_)
  refine AWp.block (Zy ?_)
  refine Zl 3 4 (fun n lc hc => ∃ (q : Nat), n = tt.names.length - q ∧ EqS lc [(7, .d (.int .i64 (q : Nat)))] ∧ EqS hc (⟨[(b3, ⟨8, 1, [[.d (.int .i64 tt.kind), .d (.int .i64 tt.mat), .d (.int .i64 tt.part), .d (.slc 1 (tt.names.map strD)), .d (.slc 1 (tt.keys.map strD)), .d (.bool tt.over), .d (.int .i64 tt.limit), .d (.slc 8 (kidsD tt))]]⟩)], []⟩) ∧ (q ≤ tt.names.length) ∧ (sizeE tt.names = sizeE (tt.names.drop q))) ?_ ?_
  · refine ⟨_, 0, rfl, ZE, ZE, ?_, ?_⟩
    all_goals (first | omega | rfl)
  rintro _ _ _ ⟨q, rfl, ⟨rfl⟩, ⟨rfl⟩, m1, m2⟩
  refine Zy ?_
  refine Zs (Zp 135 ?_)
  refine Zc (fun hc4 => ?_) fun hc4 => ?_
  ·
   have hlt : q < tt.names.length := by omega
   have hqi : (q : Int) < (tt.names.length : Int) := by omega
   have zf5 := fun d0_ => map_getD strD tt.names q d0_ hlt
   refine Zk ?_
   refine Zs (AWp.block (Zp 1031 ?_))
   refine Zc (fun hc5 => ?_) fun hc5 => ?_
   ·
    have hsz : ¬ sizeE tt.names = 0 := by rw [m2, sizeE_t hlt (by omega)]; decide
    refine Zp 4 ?_
    refine AWp.ret ?_
    simp only [go_sem]
    rw [tstE_eq, if_neg (fun h9 => h9.2 he), if_neg (fun h9 => h9.2 hn), if_pos hsz]; try simp [LeA, LeD]
   have hs : ¬ 100 < (tt.names[q]).length := by omega
   refine AWp.skip (blkQ_n (thenQ_n ?_))
   refine Zr (thenQ_n ?_)
   refine Ze 3 4 [] [] [b3] [] (.e ⟨_, ZM, q + 1, rfl, ZE, ZE, ?_, ?_⟩)
   · omega
   · rw [m2, sizeE_f hlt hs]
  have hs1 : sizeE tt.names = 0 := by rw [m2, sizeE_e (by omega)]
  clear m1 m2
  refine AWp.exit (thenQ_e (thenQ_e (blkQ_e (thenQ_n ?_))))
  refine Zs (Zp 11 ?_)
  refine AWp.block (Zy ?_)
  refine Zl 3 4 (fun n lc hc => ∃ (q : Nat), n = tt.keys.length - q ∧ EqS lc [(8, .d (.int .i64 (q : Nat)))] ∧ EqS hc (⟨[(b3, ⟨8, 1, [[.d (.int .i64 tt.kind), .d (.int .i64 tt.mat), .d (.int .i64 tt.part), .d (.slc 1 (tt.names.map strD)), .d (.slc 1 (tt.keys.map strD)), .d (.bool tt.over), .d (.int .i64 tt.limit), .d (.slc 8 (kidsD tt))]]⟩)], []⟩) ∧ (q ≤ tt.keys.length) ∧ (sizeE tt.keys = sizeE (tt.keys.drop q))) ?_ ?_
  · refine ⟨_, 0, rfl, ZE, ZE, ?_, ?_⟩
    all_goals (first | omega | rfl)
  rintro _ _ _ ⟨q, rfl, ⟨rfl⟩, ⟨rfl⟩, m1, m2⟩
  refine Zy ?_
  refine Zs (Zp 135 ?_)
  refine Zc (fun hc6 => ?_) fun hc6 => ?_
  ·
   have hlt : q < tt.keys.length := by omega
   have hqi : (q : Int) < (tt.keys.length : Int) := by omega
   have zf6 := fun d0_ => map_getD strD tt.keys q d0_ hlt
   refine Zk ?_
   refine Zs (AWp.block (Zp 1031 ?_))
   refine Zc (fun hc7 => ?_) fun hc7 => ?_
   ·
    have hsz : ¬ sizeE tt.keys = 0 := by rw [m2, sizeE_t hlt (by omega)]; decide
    refine Zp 4 ?_
    refine AWp.ret ?_
    simp only [go_sem]
    rw [tstE_eq, if_neg (fun h9 => h9.2 he), if_neg (fun h9 => h9.2 hn), if_neg (fun h9 => h9 hs1), if_pos hsz]; try simp [LeA, LeD]
   have hs : ¬ 100 < (tt.keys[q]).length := by omega
   refine AWp.skip (blkQ_n (thenQ_n ?_))
   refine Zr (thenQ_n ?_)
   refine Ze 3 4 [] [] [b3] [] (.e ⟨_, ZM, q + 1, rfl, ZE, ZE, ?_, ?_⟩)
   · omega
   · rw [m2, sizeE_f hlt hs]
  have hs2 : sizeE tt.keys = 0 := by rw [m2, sizeE_e (by omega)]
  clear m1 m2
  refine AWp.exit (thenQ_e (thenQ_e (blkQ_e (thenQ_n ?_))))
  refine Zs (Zp 11 ?_)
  refine AWp.block (Zy ?_)
  refine Zl 3 4 (fun n lc hc => ∃ (q : Nat), n = tt.kids.length - q ∧ EqS lc [(9, .d (.int .i64 (q : Nat)))] ∧ EqS hc (⟨[(b3, ⟨8, 1, [[.d (.int .i64 tt.kind), .d (.int .i64 tt.mat), .d (.int .i64 tt.part), .d (.slc 1 (tt.names.map strD)), .d (.slc 1 (tt.keys.map strD)), .d (.bool tt.over), .d (.int .i64 tt.limit), .d (.slc 8 (kidsD tt))]]⟩)], []⟩) ∧ (q ≤ tt.kids.length) ∧ (tstEL ks tt.kids = tstEL ks (tt.kids.drop q))) ?_ ?_
  · refine ⟨_, 0, rfl, ZE, ZE, ?_, ?_⟩
    all_goals (first | omega | rfl)
  rintro _ _ _ ⟨q, rfl, ⟨rfl⟩, ⟨rfl⟩, m3, m4⟩
  refine Zy ?_
  refine Zs (Zp 135 ?_)
  refine Zc (fun hc8 => ?_) fun hc8 => ?_
  ·
   have hlt : q < tt.kids.length := by omega
   have hqi : (q : Int) < (tt.kids.length : Int) := by omega
   have zf7 := fun d0_ => kidsD_get tt q d0_ hlt
   refine Zk ?_
   refine Zs (AWp.block (Zx ?_))
   simp only [go_sem, zf7, hqi]
   refine ZP (ih _ (List.getElem_mem hlt)) ?_
   refine Zy ?_
   refine Zm 15 ?_
   refine Zp 47 ?_
   refine Zc (fun hc9 => ?_) fun hc9 => ?_
   ·
    refine Zp 4 ?_
    refine AWp.ret ?_
    simp only [go_sem]
    rw [tstE_eq ks tt, if_neg (fun h9 => h9.2 he), if_neg (fun h9 => h9.2 hn), if_neg (fun h9 => h9 hs1), if_neg (fun h9 => h9 hs2), m4, tstEL_t hlt hc9]; try simp [LeA, LeD]
   have hz8 : tstE ks (tt.kids[q]) = 0 := by omega
   refine AWp.skip (blkQ_n (thenQ_n ?_))
   refine Zr (thenQ_n ?_)
   refine Ze 3 4 [] [] [b3] [] (.e ⟨_, ZM, q + 1, rfl, ZE, ZE, ?_, ?_⟩)
   · omega
   · rw [m4, tstEL_f hlt hz8]
  refine AWp.exit (thenQ_e (thenQ_e (blkQ_e (thenQ_n ?_))))
  refine Zm 0 ?_
  refine Zp 1 ?_
  refine AWp.ret ?_
  simp only [go_sem]
  rw [tstE_eq, if_neg (fun h9 => h9.2 he), if_neg (fun h9 => h9.2 hn), if_neg (fun h9 => h9 hs1), if_neg (fun h9 => h9 hs2), m4, tstEL_e (by omega)]; try simp [LeA, LeD]
 refine Zk ?_
 refine Zs (Zp 7 ?_)
 refine AWp.block (Zy ?_)
 refine Zl 3 4 (fun n lc hc => ∃ (q : Nat), n = tt.names.length - q ∧ EqS lc [(7, .d (.int .i64 (q : Nat)))] ∧ EqS hc (⟨[(b3, ⟨8, 1, [[.d (.int .i64 tt.kind), .d (.int .i64 tt.mat), .d (.int .i64 tt.part), .d (.slc 1 (tt.names.map strD)), .d (.slc 1 (tt.keys.map strD)), .d (.bool tt.over), .d (.int .i64 tt.limit), .d (.slc 8 (kidsD tt))]]⟩)], []⟩) ∧ (q ≤ tt.names.length) ∧ (sizeE tt.names = sizeE (tt.names.drop q))) ?_ ?_
 · refine ⟨_, 0, rfl, ZE, ZE, ?_, ?_⟩
   all_goals (first | omega | rfl)
 rintro _ _ _ ⟨q, rfl, ⟨rfl⟩, ⟨rfl⟩, m1, m2⟩
 refine Zy ?_
 refine Zs (Zp 135 ?_)
 refine Zc (fun hc4 => ?_) fun hc4 => ?_
 ·
  have hlt : q < tt.names.length := by omega
  have hqi : (q : Int) < (tt.names.length : Int) := by omega
  have zf8 := fun d0_ => map_getD strD tt.names q d0_ hlt
  refine Zk ?_
  refine Zs (AWp.block (Zp 1031 ?_))
  refine Zc (fun hc5 => ?_) fun hc5 => ?_
  ·
   have hsz : ¬ sizeE tt.names = 0 := by rw [m2, sizeE_t hlt (by omega)]; decide
   refine Zp 4 ?_
   refine AWp.ret ?_
   simp only [go_sem]
   rw [tstE_eq, if_neg (fun h9 => hc0 h9.1), if_neg (fun h9 => hc0 h9.1), if_pos hsz]; try simp [LeA, LeD]
  have hs : ¬ 100 < (tt.names[q]).length := by omega
  refine AWp.skip (blkQ_n (thenQ_n ?_))
  refine Zr (thenQ_n ?_)
  refine Ze 3 4 [] [] [b3] [] (.e ⟨_, ZM, q + 1, rfl, ZE, ZE, ?_, ?_⟩)
  · omega
  · rw [m2, sizeE_f hlt hs]
 have hs1 : sizeE tt.names = 0 := by rw [m2, sizeE_e (by omega)]
 clear m1 m2
 refine AWp.exit (thenQ_e (thenQ_e (blkQ_e (thenQ_n ?_))))
 refine Zs (Zp 11 ?_)
 refine AWp.block (Zy ?_)
 refine Zl 3 4 (fun n lc hc => ∃ (q : Nat), n = tt.keys.length - q ∧ EqS lc [(8, .d (.int .i64 (q : Nat)))] ∧ EqS hc (⟨[(b3, ⟨8, 1, [[.d (.int .i64 tt.kind), .d (.int .i64 tt.mat), .d (.int .i64 tt.part), .d (.slc 1 (tt.names.map strD)), .d (.slc 1 (tt.keys.map strD)), .d (.bool tt.over), .d (.int .i64 tt.limit), .d (.slc 8 (kidsD tt))]]⟩)], []⟩) ∧ (q ≤ tt.keys.length) ∧ (sizeE tt.keys = sizeE (tt.keys.drop q))) ?_ ?_
 · refine ⟨_, 0, rfl, ZE, ZE, ?_, ?_⟩
   all_goals (first | omega | rfl)
 rintro _ _ _ ⟨q, rfl, ⟨rfl⟩, ⟨rfl⟩, m1, m2⟩
 refine Zy ?_
 refine Zs (Zp 135 ?_)
 refine Zc (fun hc6 => ?_) fun hc6 => ?_
 ·
  have hlt : q < tt.keys.length := by omega
  have hqi : (q : Int) < (tt.keys.length : Int) := by omega
  have zf9 := fun d0_ => map_getD strD tt.keys q d0_ hlt
  refine Zk ?_
  refine Zs (AWp.block (Zp 1031 ?_))
  refine Zc (fun hc7 => ?_) fun hc7 => ?_
  ·
   have hsz : ¬ sizeE tt.keys = 0 := by rw [m2, sizeE_t hlt (by omega)]; decide
   refine Zp 4 ?_
   refine AWp.ret ?_
   simp only [go_sem]
   rw [tstE_eq, if_neg (fun h9 => hc0 h9.1), if_neg (fun h9 => hc0 h9.1), if_neg (fun h9 => h9 hs1), if_pos hsz]; try simp [LeA, LeD]
  have hs : ¬ 100 < (tt.keys[q]).length := by omega
  refine AWp.skip (blkQ_n (thenQ_n ?_))
  refine Zr (thenQ_n ?_)
  refine Ze 3 4 [] [] [b3] [] (.e ⟨_, ZM, q + 1, rfl, ZE, ZE, ?_, ?_⟩)
  · omega
  · rw [m2, sizeE_f hlt hs]
 have hs2 : sizeE tt.keys = 0 := by rw [m2, sizeE_e (by omega)]
 clear m1 m2
 refine AWp.exit (thenQ_e (thenQ_e (blkQ_e (thenQ_n ?_))))
 refine Zs (Zp 11 ?_)
 refine AWp.block (Zy ?_)
 refine Zl 3 4 (fun n lc hc => ∃ (q : Nat), n = tt.kids.length - q ∧ EqS lc [(9, .d (.int .i64 (q : Nat)))] ∧ EqS hc (⟨[(b3, ⟨8, 1, [[.d (.int .i64 tt.kind), .d (.int .i64 tt.mat), .d (.int .i64 tt.part), .d (.slc 1 (tt.names.map strD)), .d (.slc 1 (tt.keys.map strD)), .d (.bool tt.over), .d (.int .i64 tt.limit), .d (.slc 8 (kidsD tt))]]⟩)], []⟩) ∧ (q ≤ tt.kids.length) ∧ (tstEL ks tt.kids = tstEL ks (tt.kids.drop q))) ?_ ?_
 · refine ⟨_, 0, rfl, ZE, ZE, ?_, ?_⟩
   all_goals (first | omega | rfl)
 rintro _ _ _ ⟨q, rfl, ⟨rfl⟩, ⟨rfl⟩, m3, m4⟩
 refine Zy ?_
 refine Zs (Zp 135 ?_)
 refine Zc (fun hc8 => ?_) fun hc8 => ?_
 ·
  have hlt : q < tt.kids.length := by omega
  have hqi : (q : Int) < (tt.kids.length : Int) := by omega
  have zf10 := fun d0_ => kidsD_get tt q d0_ hlt
  refine Zk ?_
  refine Zs (AWp.block (Zx ?_))
  simp only [go_sem, zf10, hqi]
  refine ZP (ih _ (List.getElem_mem hlt)) ?_
  refine Zy ?_
  refine Zm 15 ?_
  refine Zp 47 ?_
  refine Zc (fun hc9 => ?_) fun hc9 => ?_
  ·
   refine Zp 4 ?_
   refine AWp.ret ?_
   simp only [go_sem]
   rw [tstE_eq ks tt, if_neg (fun h9 => hc0 h9.1), if_neg (fun h9 => hc0 h9.1), if_neg (fun h9 => h9 hs1), if_neg (fun h9 => h9 hs2), m4, tstEL_t hlt hc9]; try simp [LeA, LeD]
  have hz8 : tstE ks (tt.kids[q]) = 0 := by omega
  refine AWp.skip (blkQ_n (thenQ_n ?_))
  refine Zr (thenQ_n ?_)
  refine Ze 3 4 [] [] [b3] [] (.e ⟨_, ZM, q + 1, rfl, ZE, ZE, ?_, ?_⟩)
  · omega
  · rw [m4, tstEL_f hlt hz8]
 refine AWp.exit (thenQ_e (thenQ_e (blkQ_e (thenQ_n ?_))))
 refine Zm 0 ?_
 refine Zp 1 ?_
 refine AWp.ret ?_
 simp only [go_sem]
 rw [tstE_eq, if_neg (fun h9 => hc0 h9.1), if_neg (fun h9 => hc0 h9.1), if_neg (fun h9 => h9 hs1), if_neg (fun h9 => h9 hs2), m4, tstEL_e (by omega)]; try simp [LeA, LeD]
theorem tallow_c (T : Tbl) (ks : List (List UInt8)) (hkn : ks.length ≤ 1048576) (tt : Tst) (ok : tt.Ok) : PC Tryz.prog T 119 [.d (.slc 1 (ks.map strD)), .agg (tstA tt)] (.d (.int .i64 (tstE ks tt))) := by
 induction tt using Tst.ind with
 | h tt ih => exact tallow_s T ks hkn tt ok fun y hy => ih y hy (ok.inv.2.2.2 y hy)
end
section
def ixG {α : Type} [DecidableEq α] : List α → α → Int
 | [], _ => -1
 | x :: r, t => if t = x then 0 else if ixG r t < 0 then -1 else ixG r t + 1
section
variable {α : Type} [DecidableEq α]
theorem ixG_ge : ∀ (l : List α) (t : α), -1 ≤ ixG l t
 | [], _ => by simp [ixG]
 | x :: r, t => by have := ixG_ge r t; unfold ixG; split; omega; split <;> omega
theorem ixG_mem : ∀ (l : List α) (t : α), 0 ≤ ixG l t ↔ t ∈ l
 | [], t => by simp [ixG]
 | x :: r, t => by
  have h1 := ixG_mem r t
  have h2 := ixG_ge r t
  unfold ixG
  rw [List.mem_cons]
  split
  ·rename_i h; simp [h]
  ·rename_i h
   split
   ·rename_i h3; simp [h, ← h1]; omega
   ·rename_i h3; simp [h, ← h1]; omega
def ixQ (l : List α) (t : α) (k : Nat) : Prop := ixG l t = if ixG (l.drop k) t < 0 then -1 else ixG (l.drop k) t + k
theorem ixQ_0 (l : List α) (t : α) : ixQ l t 0 := by
 have := ixG_ge l t
 unfold ixQ; rw [List.drop_zero]; split <;> omega
theorem ixQ_t {l : List α} {t : α} {k : Nat} (h : k < l.length) (hR : ixQ l t k) (he : t = l[k]'h) : ixG l t = k := by
 unfold ixQ at hR
 rw [List.drop_eq_getElem_cons h, ixG, if_pos he] at hR
 rw [hR]; simp
theorem ixQ_f {l : List α} {t : α} {k : Nat} (h : k < l.length) (hR : ixQ l t k) (he : ¬ t = l[k]'h) : ixQ l t (k + 1) := by
 unfold ixQ at hR ⊢
 rw [List.drop_eq_getElem_cons h, ixG, if_neg he] at hR
 have := ixG_ge (l.drop (k + 1)) t
 rw [hR]
 split <;> split <;> omega
theorem ixQ_end {l : List α} {t : α} {k : Nat} (h : l.length ≤ k) (hR : ixQ l t k) : ixG l t = -1 := by
 unfold ixQ at hR
 rw [List.drop_eq_nil_of_le h] at hR
 simpa [ixG] using hR
end
attribute [local go_sem] icast8 strD in
theorem IndexT_c (T : Tbl) (l : List Tx) (t : Tx) (hl : l.length ≤ 1048576) : PC Tryz.prog T 114 [.d (.slc 1 (l.map strD)), .d (.str t)] (.d (.int .i64 (ixG l t))) := by
 refine ⟨Tryz.call114, PCall.enterS Tryz.func114 rfl Tryz.ntmps114 rfl fun hb => ?_⟩
 simp only [go_sem, Tryz.results114]
 refine Zp 3 ?_
 refine Zs (Zp 27 ?_)
 refine AWp.block (Zy ?_)
 refine Zl 7 8 (fun n lc hc => ∃ (k : Nat), n = l.length - k ∧ EqS lc [(8, .d (.int .i64 (k : Nat)))] ∧ EqS hc (⟨[], []⟩) ∧ (k ≤ l.length) ∧ (ixQ l t k)) ?_ ?_
 · refine ⟨_, 0, rfl, ZE, ZE, ?_, ?_⟩
   all_goals (first | omega | exact ixQ_0 _ _)
 rintro _ _ _ ⟨k, rfl, ⟨rfl⟩, ⟨rfl⟩, h1, h2⟩
 refine Zy ?_
 refine Zp 31 ?_
 refine Zs (Zc (fun hc0 => ?_) fun hc0 => ?_)
 ·
  have hlt : k < l.length := by omega
  have hki : (k : Int) < (l.length : Int) := by omega
  have zf1 := fun d0_ => map_getD strD l k d0_ hlt
  refine Zk ?_
  refine Zs (AWp.block (Zp 31 ?_))
  refine Zp 1055 ?_
  refine Zc (fun hc1 => ?_) fun hc1 => ?_
  ·
   refine Zp 4 ?_
   refine AWp.ret ?_
   simp only [go_sem]
   rw [ixQ_t hlt h2 hc1]; try simp [LeA, LeD]
  refine AWp.skip (blkQ_n (thenQ_n ?_))
  refine Zr (thenQ_n ?_)
  refine Zf 11 16 (.e ⟨_, ZM, k + 1, rfl, ZE, ZE, ?_, ?_⟩)
  · omega
  · exact ixQ_f hlt h2 hc1
 refine AWp.exit (thenQ_e (thenQ_e (blkQ_e (thenQ_n ?_))))
 refine Zm 0 ?_
 refine Zp 1 ?_
 refine AWp.ret ?_
 simp only [go_sem]
 rw [ixQ_end (by omega) h2]; try simp [LeA, LeD]
theorem ContT_c (T : Tbl) (l : List Tx) (t : Tx) (hl : l.length ≤ 1048576) : PC Tryz.prog T 57 [.d (.slc 1 (l.map strD)), .d (.str t)] (.d (.bool (decide (t ∈ l)))) := by
 refine ⟨Tryz.call57, PCall.enterS Tryz.func57 rfl Tryz.ntmps57 rfl fun hb => ?_⟩
 simp only [go_sem, Tryz.results57]
 refine Zp 3 ?_
 refine Z1 4 (IndexT_c T l t hl) ?_
 refine AWp.ret ?_
 simp only [go_sem]
 simp [ixG_mem]
end
section
section
variable {P : Program} {T : Tbl} {Q : AQ} {sl : List AV} {c : Code} {L : List Nat} {H H' : List (Nat × Ob)}
end
end
section
attribute [local go_sem] strs icast8 List.length_map decide_true decide_false Bool.not_true Bool.not_false strD in
theorem sameTexts_r (T : Tbl) (l : List Str) : PC Tryz.prog T 38 [.d (strs l), .d (strs l)] (.d (.bool true)) := by
 refine ⟨Tryz.call38, PCall.enterS Tryz.func38 rfl Tryz.ntmps38 rfl fun hb => ?_⟩
 simp only [go_sem, Tryz.results38]
 refine Zp 3 ?_
 refine Zs (Zp 67 ?_)
 refine Zc (fun hc0 => ?_) fun hc0 => ?_
 ·
  exact absurd hc0 (by simp)
 refine Zk ?_
 refine Zs (Zp 7 ?_)
 refine AWp.block (Zy ?_)
 have ha : l.length ≤ 9223372036854775807 := by
   have := (DB.slc_inv (hb _ (List.mem_cons_self ..))).1
   rw [List.length_map] at this
   exact this
 refine Zl 3 4 (fun n lc hc => ∃ (k : Nat), n = l.length - k ∧ EqS lc [(5, .d (.int .i64 (k : Nat)))] ∧ EqS hc (⟨[], []⟩) ∧ (k ≤ l.length)) ⟨_, 0, rfl, ZE, ZE, ZI⟩ ?_
 rintro _ _ _ ⟨k, rfl, ⟨rfl⟩, ⟨rfl⟩, h1⟩
 refine Zy ?_
 refine Zs (Zp 71 ?_)
 refine Zc (fun hc1 => ?_) fun hc1 => ?_
 ·
  have hlt : k < l.length := by omega
  have hki : (k : Int) < (l.length : Int) := by omega
  have zf1 := fun d0_ => map_getD strD l k d0_ hlt
  refine Zk ?_
  refine Zs (AWp.block (Zd true [0, 1, 2, 3, 4, 5, 6, 7, 8] ?_))
  try simp only [go_sem, bne_self_eq_false, zf1, hki]
  (repeat (with_reducible refine And.intro ZS ?_))
  refine Zm 4103 ?_
  refine Zc (fun hc2 => ?_) fun hc2 => ?_
  ·
   exact absurd hc2 (by simp)
  refine AWp.skip (blkQ_n (thenQ_n ?_))
  refine Zr (thenQ_n ?_)
  refine Zf 3 4 (.e ⟨_, ZM, k + 1, rfl, ZE, ZE, ZN⟩)
 refine AWp.exit (thenQ_e (thenQ_e (blkQ_e (thenQ_n ?_))))
 refine Zm 0 ?_
 refine Zp 1 ?_
 refine AWp.ret ?_
 try simp only [go_sem, bne_self_eq_false]
 try simp [LeA, LeD]
attribute [local go_sem] tstA tstD List.map_cons List.map_nil List.cons_append List.nil_append icast8 kidsD_len decide_true decide_false Bool.not_true Bool.not_false in
theorem sameTest_step (T : Tbl) (t : Tst) (ok : t.Ok) (ih : ∀ x ∈ t.kids, PC Tryz.prog T 16 [.agg (tstA x), .agg (tstA x)] (.d (.bool true))) : PC Tryz.prog T 16 [.agg (tstA t), .agg (tstA t)] (.d (.bool true)) := by
 refine ⟨Tryz.call16, PCall.enterS Tryz.func16 rfl Tryz.ntmps16 rfl fun hb => ?_⟩
 obtain ⟨s1, s2, s3, s4⟩ := ok.inv
 simp only [go_sem, Tryz.results16]
 refine Zx ?_
 try simp only [go_sem, bne_self_eq_false]
 (repeat (with_reducible refine And.intro ZS ?_))
 intro b1
 first | intro fb1 | have fb1 := True.intro
 try simp only [freshL] at fb1
 try simp only [go_sem, bne_self_eq_false, fb1]
 (repeat (with_reducible refine And.intro ZS ?_))
 intro b2
 first | intro fb2 | have fb2 := True.intro
 try simp only [freshL] at fb2
 try simp only [go_sem, bne_self_eq_false, fb1, fb2]
 (repeat (with_reducible refine And.intro ZS ?_))
 refine Zs (Zx ?_)
 try simp only [go_sem, bne_self_eq_false, fb1, fb2]
 (repeat (with_reducible refine And.intro ZS ?_))
 refine DW.pcgr rfl rfl rfl rfl rfl (fun hg => sameTexts_r T t.names) (fun hg => by (try simp only [go_sem, bne_self_eq_false, fb1, fb2]) <;> first | exact hg | (exfalso; simp at hg; done) | (simpa using hg) | grind) rfl rfl ?_
 try simp only [go_sem, bne_self_eq_false, fb1, fb2]
 (repeat (with_reducible refine And.intro ZS ?_))
 refine DW.pcgr rfl rfl rfl rfl rfl (fun hg => sameTexts_r T t.keys) (fun hg => by (try simp only [go_sem, bne_self_eq_false, fb1, fb2]) <;> first | exact hg | (exfalso; simp at hg; done) | (simpa using hg) | grind) rfl rfl ?_
 try simp only [go_sem, bne_self_eq_false, fb1, fb2]
 (repeat (with_reducible refine And.intro ZS ?_))
 refine Zm 4611686018427387916 ?_
 refine Zc (fun hc0 => ?_) fun hc0 => ?_
 ·
  exact absurd hc0 (by simp)
 refine Zk ?_
 refine Zs (Zp 7 ?_)
 refine AWp.block (Zy ?_)
 refine Zl 3 4 (fun n lc hc => ∃ (k : Nat), n = t.kids.length - k ∧ EqS lc [(5, .d (.int .i64 (k : Nat)))] ∧ EqS hc (⟨[(b2, ⟨8, 1, [tstA t]⟩), (b1, ⟨8, 1, [tstA t]⟩)], []⟩) ∧ (k ≤ t.kids.length)) ⟨_, 0, rfl, ZE, ZE, ZI⟩ ?_
 rintro _ _ _ ⟨k, rfl, ⟨rfl⟩, ⟨rfl⟩, h1⟩
 refine Zy ?_
 refine Zs (Zp 135 ?_)
 refine Zc (fun hc1 => ?_) fun hc1 => ?_
 ·
  have hlt : k < t.kids.length := by omega
  have hki : (k : Int) < (t.kids.length : Int) := by omega
  have zf1 := fun d0_ => kidsD_get t k d0_ hlt
  refine Zk ?_
  refine Zs (AWp.block (Zd true [0, 1, 2, 3, 4, 5, 6, 7, 8, 9, 10, 11] ?_))
  try simp only [go_sem, bne_self_eq_false, fb1, fb2, zf1, hki]
  (repeat (with_reducible refine And.intro ZS ?_))
  refine DW.pcr rfl rfl rfl rfl (ih _ (List.getElem_mem hlt)) rfl rfl ?_
  try simp only [go_sem, bne_self_eq_false, fb1, fb2, zf1, hki]
  (repeat (with_reducible refine And.intro ZS ?_))
  refine Zm 32775 ?_
  refine Zc (fun hc2 => ?_) fun hc2 => ?_
  ·
   exact absurd hc2 (by simp)
  refine AWp.skip (blkQ_n (thenQ_n ?_))
  refine Zr (thenQ_n ?_)
  refine Ze 3 4 [] [] [b2, b1] [] (.e ⟨_, ZM, k + 1, rfl, ZE, ZE, ZN⟩)
 refine AWp.exit (thenQ_e (thenQ_e (blkQ_e (thenQ_n ?_))))
 refine Zm 0 ?_
 refine Zp 1 ?_
 refine AWp.ret ?_
 try simp only [go_sem, bne_self_eq_false, fb1, fb2]
 try simp [LeA, LeD]
theorem sameTest_c (T : Tbl) (t : Tst) (ok : t.Ok) : PC Tryz.prog T 16 [.agg (tstA t), .agg (tstA t)] (.d (.bool true)) := by
 induction t using Tst.ind with
 | h t ih => exact sameTest_step T t ok fun x hx => ih x hx (ok.inv.2.2.2 x hx)
attribute [local go_sem] cmdA cmdD tstA tstD List.map_cons List.map_nil List.cons_append List.nil_append icast8 kidsD_len decide_true decide_false Bool.not_true Bool.not_false List.length_map in
theorem sameCommands_step (T : Tbl) (l : List Cmd) (hl : l.length * 208 ≤ 140737488355328) (ih : ∀ x ∈ l, PC Tryz.prog T 32 [.agg (cmdA x), .agg (cmdA x)] (.d (.bool true))) : PC Tryz.prog T 12 [.d (.slc 12 (l.map cmdD)), .d (.slc 12 (l.map cmdD))] (.d (.bool true)) := by
 refine ⟨Tryz.call12, PCall.enterS Tryz.func12 rfl Tryz.ntmps12 rfl fun hb => ?_⟩
 simp only [go_sem, Tryz.results12]
 refine Zp 3 ?_
 refine Zs (Zp 67 ?_)
 refine Zc (fun hc0 => ?_) fun hc0 => ?_
 ·
  exact absurd hc0 (by simp)
 refine Zk ?_
 refine Zs (Zp 7 ?_)
 refine AWp.block (Zy ?_)
 refine Zl 3 4 (fun n lc hc => ∃ (k : Nat), n = l.length - k ∧ EqS lc [(5, .d (.int .i64 (k : Nat)))] ∧ EqS hc (⟨[], []⟩) ∧ (k ≤ l.length)) ⟨_, 0, rfl, ZE, ZE, ZI⟩ ?_
 rintro _ _ _ ⟨k, rfl, ⟨rfl⟩, ⟨rfl⟩, h1⟩
 refine Zy ?_
 refine Zs (Zp 71 ?_)
 refine Zc (fun hc1 => ?_) fun hc1 => ?_
 ·
  have hlt : k < l.length := by omega
  have hki : (k : Int) < (l.length : Int) := by omega
  have zf1 := fun d0_ => map_getD cmdD l k d0_ hlt
  refine Zk ?_
  refine Zs (AWp.block (Zd true [0, 1, 2, 3, 4, 5, 6, 7, 8, 9] ?_))
  try simp only [go_sem, bne_self_eq_false, zf1, hki]
  (repeat (with_reducible refine And.intro ZS ?_))
  refine DW.pcr rfl rfl rfl rfl (ih _ (List.getElem_mem hlt)) rfl rfl ?_
  try simp only [go_sem, bne_self_eq_false, zf1, hki]
  (repeat (with_reducible refine And.intro ZS ?_))
  refine Zm 8199 ?_
  refine Zc (fun hc2 => ?_) fun hc2 => ?_
  ·
   exact absurd hc2 (by simp)
  refine AWp.skip (blkQ_n (thenQ_n ?_))
  refine Zr (thenQ_n ?_)
  refine Zf 3 4 (.e ⟨_, ZM, k + 1, rfl, ZE, ZE, ZN⟩)
 refine AWp.exit (thenQ_e (thenQ_e (blkQ_e (thenQ_n ?_))))
 refine Zm 0 ?_
 refine Zp 1 ?_
 refine AWp.ret ?_
 try simp only [go_sem, bne_self_eq_false]
 try simp [LeA, LeD]
attribute [local go_sem] cmdA cmdD tstA tstD List.map_cons List.map_nil List.cons_append List.nil_append icast8 kidsD_len decide_true decide_false Bool.not_true Bool.not_false in
theorem sameCommand_step (T : Tbl) (c : Cmd) (ok : c.Ok) (i1 : PC Tryz.prog T 12 [.d (.slc 12 (thnD c)), .d (.slc 12 (thnD c))] (.d (.bool true))) (i2 : PC Tryz.prog T 12 [.d (.slc 12 (elsD c)), .d (.slc 12 (elsD c))] (.d (.bool true))) : PC Tryz.prog T 32 [.agg (cmdA c), .agg (cmdA c)] (.d (.bool true)) := by
 refine ⟨Tryz.call32, PCall.enterS Tryz.func32 rfl Tryz.ntmps32 rfl fun hb => ?_⟩
 obtain ⟨s1, s2, s3, s4, s5, s6⟩ := ok.inv
 simp only [go_sem, Tryz.results32]
 refine Zx ?_
 try simp only [go_sem, bne_self_eq_false]
 (repeat (with_reducible refine And.intro ZS ?_))
 intro b1
 first | intro fb1 | have fb1 := True.intro
 try simp only [freshL] at fb1
 try simp only [go_sem, bne_self_eq_false, fb1]
 (repeat (with_reducible refine And.intro ZS ?_))
 intro b2
 first | intro fb2 | have fb2 := True.intro
 try simp only [freshL] at fb2
 try simp only [go_sem, bne_self_eq_false, fb1, fb2]
 (repeat (with_reducible refine And.intro ZS ?_))
 refine Zx ?_
 try simp only [go_sem, bne_self_eq_false, fb1, fb2]
 (repeat (with_reducible refine And.intro ZS ?_))
 refine DW.pcgr rfl rfl rfl rfl rfl (fun hg => sameTexts_r T c.texts) (fun hg => by (try simp only [go_sem, bne_self_eq_false, fb1, fb2]) <;> first | exact hg | (exfalso; simp at hg; done) | (simpa using hg) | grind) rfl rfl ?_
 try simp only [go_sem, bne_self_eq_false, fb1, fb2]
 (repeat (with_reducible refine And.intro ZS ?_))
 refine DW.pcgr rfl rfl rfl rfl rfl (fun hg => sameTest_c T c.test s2) (fun hg => by (try simp only [go_sem, bne_self_eq_false, fb1, fb2]) <;> first | exact hg | (exfalso; simp at hg; done) | (simpa using hg) | grind) rfl rfl ?_
 try simp only [go_sem, bne_self_eq_false, fb1, fb2]
 (repeat (with_reducible refine And.intro ZS ?_))
 refine DW.pcgr rfl rfl rfl rfl rfl (fun hg => i1) (fun hg => by (try simp only [go_sem, bne_self_eq_false, fb1, fb2]) <;> first | exact hg | (exfalso; simp at hg; done) | (simpa using hg) | grind) rfl rfl ?_
 try simp only [go_sem, bne_self_eq_false, fb1, fb2]
 (repeat (with_reducible refine And.intro ZS ?_))
 refine DW.pcgr rfl rfl rfl rfl rfl (fun hg => i2) (fun hg => by (try simp only [go_sem, bne_self_eq_false, fb1, fb2]) <;> first | exact hg | (exfalso; simp at hg; done) | (simpa using hg) | grind) rfl rfl ?_
 try simp only [go_sem, bne_self_eq_false, fb1, fb2]
 (repeat (with_reducible refine And.intro ZS ?_))
 refine Zm 16 ?_
 refine AWp.ret ?_
 try simp only [go_sem, bne_self_eq_false, fb1, fb2]
 try simp [LeA, LeD]
theorem sameCommand_c (T : Tbl) (c : Cmd) (ok : c.Ok) : PC Tryz.prog T 32 [.agg (cmdA c), .agg (cmdA c)] (.d (.bool true)) := by
 induction c using Cmd.ind with
 | h c i1 i2 =>
  obtain ⟨s1, s2, s3, s4, s5, s6⟩ := ok.inv
  refine sameCommand_step T c ok ?_ ?_
  ·rw [thnD_eq]; exact sameCommands_step T _ s3 fun x hx => i1 x hx (s5 x hx)
  ·rw [elsD_eq]; exact sameCommands_step T _ s4 fun x hx => i2 x hx (s6 x hx)
theorem sameCommands_c (T : Tbl) (l : List Cmd) (hl : l.length * 208 ≤ 140737488355328) (ok : ∀ x ∈ l, x.Ok) : PC Tryz.prog T 12 [.d (.slc 12 (l.map cmdD)), .d (.slc 12 (l.map cmdD))] (.d (.bool true)) := sameCommands_step T l hl fun x hx => sameCommand_c T x (ok x hx)
end
end Go.Proofs.YtidldcfpmehpiaaGreatDoor

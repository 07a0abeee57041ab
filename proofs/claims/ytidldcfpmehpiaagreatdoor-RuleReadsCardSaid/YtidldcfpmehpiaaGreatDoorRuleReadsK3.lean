/- Texts that the law RuleReads rests on, packed. -/
import Derived.Test.YtidldcfpmehpiaaGreatDoorGB
import Derived.Test.YtidldcfpmehpiaaGreatDoorRuleReadsK2
import Derived.Test.YtidldcfpmehpiaaGreatDoorGC
import Derived.Test.YtidldcfpmehpiaaGreatDoorRuleReadsK0
import Derived.Test.YtidldcfpmehpiaaGreatDoorGT
import Derived.Test.YtidldcfpmehpiaaGreatDoorRuleReadsK1
set_option linter.unusedSimpArgs false
set_option linter.unusedVariables false
set_option maxRecDepth 20000
set_option maxHeartbeats 4000000
namespace Go.Proofs.YtidldcfpmehpiaaGreatDoor
section
theorem tabx_get (ws : List Tx) (k : Int) (h0 : 0 ≤ k) (h : k < ws.length) : (ws.map fun s => [D.str s]).getD k.toNat [] = [D.str (ws.getD k.toNat [])] := by
 have hk : k.toNat < ws.length := by omega
 simp [List.getD, hk]
def tsA : Tst → Nat → AV := fun t n => .tup [.agg (tstA t), .d (.int .i64 n)]
def cmpR (l : List Tk) (k : Int) (i : Nat) : Rd Tst := (tagS l k i 0 0).bind fun mp j1 => (strsR l j1).bind fun a j2 => (strsR l j2).bind fun c j3 => .ok (.mk k mp.1 mp.2 a c false 0 []) j3
theorem pcommandWord_c (T : Tbl) (k : Int) (h0 : 0 ≤ k) (h1 : k < 11) : PC Tryz.prog T 190 [.d (.int .i64 k)] (.d (.str (scmT.getD k.toNat []))) := by
 refine ⟨Tryz.call190, PCall.enterS Tryz.func190 rfl Tryz.ntmps190 rfl fun hb => ?_⟩
 have hw : List.getD [[D.str []], [D.str [114, 101, 113, 117, 105, 114, 101]], [D.str [105, 102]], [D.str [107, 101, 101, 112]], [D.str [100, 105, 115, 99, 97, 114, 100]], [D.str [102, 105, 108, 101, 105, 110, 116, 111]], [D.str [114, 101, 100, 105, 114, 101, 99, 116]], [D.str [114, 101, 106, 101, 99, 116]], [D.str [115, 101, 116, 102, 108, 97, 103]], [D.str [97, 100, 100, 102, 108, 97, 103]], [D.str [115, 116, 111, 112]]] k.toNat [] = [D.str (scmT.getD k.toNat [])] := tabx_get scmT k h0 h1
 simp only [go_sem, Tryz.results190]
 refine Zp 1 ?_
 refine Zp 2 ?_
 refine AWp.ret ?_
 simp only [go_sem]
 skip
theorem ptestWord_c (T : Tbl) (k : Int) (h0 : 0 ≤ k) (h1 : k < 11) : PC Tryz.prog T 273 [.d (.int .i64 k)] (.d (.str (tsT.getD k.toNat []))) := by
 refine ⟨Tryz.call273, PCall.enterS Tryz.func273 rfl Tryz.ntmps273 rfl fun hb => ?_⟩
 have hw : List.getD [[D.str []], [D.str [116, 114, 117, 101]], [D.str [102, 97, 108, 115, 101]], [D.str [110, 111, 116]], [D.str [97, 108, 108, 111, 102]], [D.str [97, 110, 121, 111, 102]], [D.str [104, 101, 97, 100, 101, 114]], [D.str [97, 100, 100, 114, 101, 115, 115]], [D.str [101, 110, 118, 101, 108, 111, 112, 101]], [D.str [101, 120, 105, 115, 116, 115]], [D.str [115, 105, 122, 101]]] k.toNat [] = [D.str (tsT.getD k.toNat [])] := tabx_get tsT k h0 h1
 simp only [go_sem, Tryz.results273]
 refine Zp 1 ?_
 refine Zp 2 ?_
 refine AWp.ret ?_
 simp only [go_sem]
 skip
theorem pmatchWord_c (T : Tbl) (k : Int) (h0 : 0 ≤ k) (h1 : k < 4) : PC Tryz.prog T 276 [.d (.int .i64 k)] (.d (.str (mtT.getD k.toNat []))) := by
 refine ⟨Tryz.call276, PCall.enterS Tryz.func276 rfl Tryz.ntmps276 rfl fun hb => ?_⟩
 have hw : List.getD [[D.str []], [D.str [105, 115]], [D.str [99, 111, 110, 116, 97, 105, 110, 115]], [D.str [109, 97, 116, 99, 104, 101, 115]]] k.toNat [] = [D.str (mtT.getD k.toNat [])] := tabx_get mtT k h0 h1
 simp only [go_sem, Tryz.results276]
 refine Zp 1 ?_
 refine Zp 2 ?_
 refine AWp.ret ?_
 simp only [go_sem]
 skip
theorem ppartWord_c (T : Tbl) (k : Int) (h0 : 0 ≤ k) (h1 : k < 4) : PC Tryz.prog T 275 [.d (.int .i64 k)] (.d (.str (ptT.getD k.toNat []))) := by
 refine ⟨Tryz.call275, PCall.enterS Tryz.func275 rfl Tryz.ntmps275 rfl fun hb => ?_⟩
 have hw : List.getD [[D.str []], [D.str [97, 108, 108]], [D.str [108, 111, 99, 97, 108, 112, 97, 114, 116]], [D.str [100, 111, 109, 97, 105, 110]]] k.toNat [] = [D.str (ptT.getD k.toNat [])] := tabx_get ptT k h0 h1
 simp only [go_sem, Tryz.results275]
 refine Zp 1 ?_
 refine Zp 2 ?_
 refine AWp.ret ?_
 simp only [go_sem]
 skip
attribute [local go_sem] pob tcast nA tA txA Int.toNat_natCast tkD decide_false Bool.false_and Bool.false_eq_true true_and and_true in
theorem pcompares_c (T : Tbl) (b : Nat) (l : List Tk) (i : Nat) (k : Int) (F : List (Nat × Ob)) (L : List Nat) (hl : l.length ≤ 400) (hi : i ≤ l.length) : AC Tryz.prog T 274 [.ptr b 3 0 0, .agg [.d (.int .i64 k), .d (.int .i64 0), .d (.int .i64 0), .nils, .nils, .d (.bool false), .d (.int .i64 0), .nils], .d (.int .i64 (i : Nat))] (⟨pob b l 0 0 :: F, L⟩) (RE 500 b F L l tsA (cmpR l k i)) := by
 refine ⟨Tryz.call274, ACalls.enterS Tryz.func274 rfl Tryz.ntmps274 rfl fun hb => ?_⟩
 simp only [go_sem, Tryz.results274]
 refine Zx (Zy ?_)
 intro b4
 first | intro fb4 | have fb4 := True.intro
 try simp only [freshL] at fb4
 intro b6
 first | intro fb6 | have fb6 := True.intro
 try simp only [freshL] at fb6
 refine Zs (AWp.block (Zn 29 ?_))
 refine Zl 13 2 (fun n lc hc => ∃ (j : Nat) (m2 p2 : Int), n = l.length - j ∧ EqS lc [(2, .d (.int .i64 (j : Nat)))] ∧ EqS hc (⟨(b6, ⟨8, 1, [[.d (.int .i64 0), .d (.int .i64 0), .d (.int .i64 0), .nils, .nils, .d (.bool false), .d (.int .i64 0), .nils]]⟩) :: (b4, ⟨8, 1, [[.d (.int .i64 k), .d (.int .i64 m2), .d (.int .i64 p2), .nils, .nils, .d (.bool false), .d (.int .i64 0), .nils]]⟩) :: pob b l 0 0 :: F, L⟩) ∧ (j ≤ l.length) ∧ (tagS l k i 0 0 = tagS l k j m2 p2)) ?_ ?_
 · refine ⟨_, i, 0, 0, rfl, ZE, ZE, ?_, ?_⟩
   all_goals (first | omega | rfl)
 rintro _ _ _ ⟨j, m2, p2, rfl, ⟨rfl⟩, ⟨rfl⟩, h1, h2⟩
 refine Zy ?_
 refine Zs ?_
 rcases Nat.lt_or_ge j l.length with hl2 | hl2
 ·
  have hlt : ((j : Int) < (l.length : Int)) = True := by simp; omega
  have hgd := tksD_gD l j [] hl2
  have hge2 : l.getD j tk0 = l[j] := by simp [List.getD, List.getElem?_eq_getElem hl2]
  refine Zp 2097167 ?_
  refine Zc (fun hc0 => ?_) fun hc0 => ?_
  ·
   have hx2 : nx l j 2 = true := by simp [nx, hl2]; first | exact hc0 | exact hc0.2
   refine Zk ?_
   refine AWp.block (Zp 31 ?_)
   refine Zp 63 ?_
   refine Zs (Zp 127 ?_)
   refine AWp.block (Zy ?_)
   refine Zl 31 96 (fun n lc hc => ∃ (q : Nat) (m3 p3 : Int) (kn : Bool), n = 4 - q ∧ EqS lc [(9, .d (.bool kn)), (10, .d (.int .i64 (q : Nat)))] ∧ EqS hc (⟨(b6, ⟨8, 1, [[.d (.int .i64 0), .d (.int .i64 0), .d (.int .i64 0), .nils, .nils, .d (.bool false), .d (.int .i64 0), .nils]]⟩) :: (b4, ⟨8, 1, [[.d (.int .i64 k), .d (.int .i64 m3), .d (.int .i64 p3), .nils, .nils, .d (.bool false), .d (.int .i64 0), .nils]]⟩) :: pob b l 0 0 :: F, L⟩) ∧ (1 ≤ q) ∧ (q ≤ 4) ∧ (CS (l[j]'hl2).text k m2 p2 q m3 p3 kn)) ?_ ?_
   · refine ⟨_, 1, m2, p2, false, rfl, ZE, ZE, ?_, ?_, ?_⟩
     all_goals (first | omega | exact CS_1 _ _ _ _)
   rintro _ _ _ ⟨q, m3, p3, kn, rfl, ⟨rfl⟩, ⟨rfl⟩, h3, h4, h5⟩
   refine Zy ?_
   refine Zs (Zp 383 ?_)
   refine Zc (fun hc1 => ?_) fun hc1 => ?_
   ·
    refine Zk ?_
    refine Zs (AWp.block (Zs (Zx (Zy ?_))))
    refine DW.pcr rfl rfl rfl rfl (pmatchWord_c T _ (by omega) (by omega)) rfl rfl ?_
    simp only [go_sem, fb4, fb6]
    refine Zm 65663 ?_
    refine Zc (fun hc2 => ?_) fun hc2 => ?_
    ·
     have xm : (l[j]'hl2).text = mtT.getD q [] ∧ m3 = 0 := hc2
     refine Zp 95 ?_
     refine Zr (thenQ_n ?_)
     refine Zx (Zy ?_)
     refine DW.pcr rfl rfl rfl rfl (ppartWord_c T _ (by omega) (by omega)) rfl rfl ?_
     simp only [go_sem, fb4, fb6]
     refine Zm 1048703 ?_
     refine Zc (fun hc3 => ?_) fun hc3 => ?_
     ·
      have xp : ((l[j]'hl2).text = ptT.getD q [] ∧ p3 = 0) ∧ ¬ k = 6 := by first | exact hc3 | (rw [xm.1]; exact hc3)
      refine Zp 95 ?_
      refine Zr (blkQ_n (thenQ_n ?_))
      refine Zr (thenQ_n ?_)
      refine Ze 31 96 [] [] [b6, b4, b] [] (.e ⟨_, ZM, (q + 1), (q : Int), (q : Int), true, rfl, ZE, ZE, ?_, ?_, ?_⟩)
      · omega
      · omega
      · exact CS_s h5 (by omega) (by omega) _ _ _ (by rw [if_pos xm]) (by rw [if_pos xp]) (by simp only [xm, xp]; simp)
     have xp : ¬ (((l[j]'hl2).text = ptT.getD q [] ∧ p3 = 0) ∧ ¬ k = 6) := by rintro ⟨⟨h7, h8⟩, h9⟩; first | (simp [h8, h9] at hc3; done) | (rw [xm.1] at h7; rcases hc3 with (h5 | h5) | h5 <;> first | exact h5 h7 | exact h5 h8 | exact h9 h5 | exact h5 h9)
     refine AWp.skip (blkQ_n (thenQ_n ?_))
     refine Zr (thenQ_n ?_)
     refine Ze 31 96 [] [] [b6, b4, b] [] (.e ⟨_, ZM, (q + 1), (q : Int), p3, true, rfl, ZE, ZE, ?_, ?_, ?_⟩)
     · omega
     · omega
     · exact CS_s h5 (by omega) (by omega) _ _ _ (by rw [if_pos xm]) (by rw [if_neg xp]) (by simp only [xm]; simp)
    have xm : ¬ ((l[j]'hl2).text = mtT.getD q [] ∧ m3 = 0) := by rintro ⟨h8, h9⟩; first | exact hc2 ⟨h8, h9⟩ | exact hc2 h8 h9 | exact hc2.elim (fun h7 => h7 h8) (fun h7 => h7 h9)
    refine Zk ?_
    refine Zx (Zy ?_)
    refine DW.pcr rfl rfl rfl rfl (ppartWord_c T _ (by omega) (by omega)) rfl rfl ?_
    simp only [go_sem, fb4, fb6]
    refine Zm 2097279 ?_
    refine Zc (fun hc3 => ?_) fun hc3 => ?_
    ·
     have xp : ((l[j]'hl2).text = ptT.getD q [] ∧ p3 = 0) ∧ ¬ k = 6 := by first | exact hc3 | (rw [xm.1]; exact hc3)
     refine Zp 95 ?_
     refine Zr (blkQ_n (thenQ_n ?_))
     refine Zr (thenQ_n ?_)
     refine Ze 31 96 [] [] [b6, b4, b] [] (.e ⟨_, ZM, (q + 1), m3, (q : Int), true, rfl, ZE, ZE, ?_, ?_, ?_⟩)
     · omega
     · omega
     · exact CS_s h5 (by omega) (by omega) _ _ _ (by rw [if_neg xm]) (by rw [if_pos xp]) (by simp only [xp]; simp)
    have xp : ¬ (((l[j]'hl2).text = ptT.getD q [] ∧ p3 = 0) ∧ ¬ k = 6) := by rintro ⟨⟨h7, h8⟩, h9⟩; first | (simp [h7, h8, h9] at hc3; done) | (rw [xm.1] at h7; rcases hc3 with (h5 | h5) | h5 <;> first | exact h5 h7 | exact h5 h8 | exact h9 h5 | exact h5 h9)
    refine AWp.skip (blkQ_n (thenQ_n ?_))
    refine Zr (thenQ_n ?_)
    refine Ze 31 96 [] [] [b6, b4, b] [] (.e ⟨_, ZM, (q + 1), m3, p3, kn, rfl, ZE, ZE, ?_, ?_, ?_⟩)
    · omega
    · omega
    · exact CS_s h5 (by omega) (by omega) _ _ _ (by rw [if_neg xm]) (by rw [if_neg xp]) (by simp only [xm, xp]; simp)
   obtain rfl : q = 4 := by omega
   refine AWp.exit (thenQ_e (thenQ_e (blkQ_e (thenQ_n ?_))))
   refine Zs (Zp 527 ?_)
   refine Zc (fun hc4 => ?_) fun hc4 => ?_
   ·
    have hf := CS_f h5 (by simpa using hc4)
    have hte : tagS l k i 0 0 = .err j 3 := by rw [h2, tg_e hx2 (by rw [hge2]; exact hf.1) (by rw [hge2]; exact hf.2)]
    refine AWp.dsN false [1, 2] [0] [3] 4 [5] rfl (by kernel_rfl) rfl fun K_ hK_ => ?_
    refine Zy ?_
    refine Exists.intro (fun h' : AH => getO b4 h'.objs = some ⟨8, 1, [[.d (.int .i64 k), .d (.int .i64 m3), .d (.int .i64 p3), .nils, .nils, .d (.bool false), .d (.int .i64 0), .nils]]⟩) (And.intro (by simp [getO, fb6]) ?_)
    refine Zy ?_
    refine FRN.ld rfl rfl (fun h' m1 => (by first | rfl | (simp only [go_sem, m1]; first | done | rfl | exact ⟨by omega, rfl⟩))) ?_
    refine Zy ?_
    refine FRN.nil ?_
    refine ZA [b] [] (pstop_c T b l (j) _ _ 3 (by decide)) ?_
    rintro _ _ ⟨rfl, rfl⟩
    simp only [go_sem, fb4, fb6]
    first | with_reducible refine And.intro (by simp [getO, fb4, fb6, hlt, hgd]) ?_ | skip
    refine lvc_ok _ _ _ ?_
    simp only [go_sem, fb6]
    refine hK_ _ _ ?_
    refine Zm 24 ?_
    refine AWp.ret ?_
    simp only [thenQ, blkQ]
    apply endW_r [b4, b6] [] [b] [] (by (try simp only [go_sem, fb6]) <;> rfl)
    · refine ⟨(.mk k m3 p3 [] [] false 0 []), j, _, _, rfl, by first | rfl | (simp only [go_sem, fb4, fb6]; done) | (simp only [go_sem, fb4, fb6]; rfl), by omega, ?_⟩
      rw [cmpR, hte, Rd.bind_er]
      exact RR.er_ _ _ (gv_ne (by decide))
    · simp [LeA, LeL, LeD, tstA, kidsD, kidsL_eq, Tst.kind, Tst.mat, Tst.part, Tst.names, Tst.keys, Tst.over, Tst.limit, tsA]
   refine Zk ?_
   refine Zr (blkQ_n (thenQ_n ?_))
   refine Ze 13 2 [] [] [b6, b4, b] [] (.e ⟨_, ZM, (j + 1), m3, p3, rfl, ZE, ZE, ?_, ?_⟩)
   · omega
   · rw [h2, CS_t h5 (by simpa using hc4) (by rw [hge2]) hx2]
  have hx2 : nx l j 2 = false := by first | exact hx2 | (simp only [nx, hge2, Bool.and_eq_false_iff, decide_eq_false_iff_not]; rcases hc0 with h9 | h9; exact absurd trivial h9; exact .inr h9)
  refine AWp.exit (thenQ_e (thenQ_e (blkQ_e (thenQ_n ?_))))
  refine Zs (Zp 143 ?_)
  refine Zc (fun hc5 => ?_) fun hc5 => ?_
  ·
   refine Zr (thenQ_n ?_)
   refine Zs (Zp 8207 ?_)
   refine Zc (fun hc6 => ?_) fun hc6 => ?_
   ·
    have x6 : p2 = 0 ∧ ¬ k = 6 := hc6
    refine Zr (thenQ_n ?_)
    refine Zx (Zy ?_)
    refine ZA [b] [] (pstrs_c T b l j _ _ hl h1) ?_
    rintro _ _ ⟨a5, n5, f5, e5, rfl, rfl, ub5, r5⟩
    have hte : tagS l k i 0 0 = .ok (1, 1) j := by rw [h2, tg_0 hx2, if_pos hc5, if_pos x6]
    simp only [go_sem, fb4, fb6]
    refine Zm 15 ?_
    refine Zs (Zp 271 ?_)
    refine Zc (fun hc7 => ?_) fun hc7 => ?_
    ·
     obtain ⟨o1, o2⟩ := r5.ok0 (strsR_oof _ _) hc7
     have o3 := strsR_le _ _ _ _ o1
     subst hc7 o2
     refine Zq fun K_ k_ => ?_
     refine Zy ?_
     refine ZA [b] [] (pstrs_c T b l n5 _ _ hl o3.2.1) ?_
     rintro _ _ ⟨a6, n6, f6, e6, rfl, rfl, ub6, r6⟩
     simp only [go_sem, fb4, fb6]
     refine k_ _ _ (thenQ_n ?_)
     refine Zm 14 ?_
     refine Zp 12 ?_
     refine AWp.ret ?_
     apply endW_r [b4, b6] [] [b] [] (by (try simp only [go_sem, fb6]) <;> rfl)
     · refine ⟨(.mk k 1 1 a5 a6 false 0 []), n6, f6, e6, rfl, by first | rfl | (simp only [go_sem, fb4, fb6]; done) | (simp only [go_sem, fb4, fb6, hlt, hgd]; rfl), by omega, ?_⟩
       rw [cmpR, hte, Rd.bind_ok, o1, Rd.bind_ok]
       by_cases h9 : e6 = 0
       · refine r6.next (strsR_oof _ _) h9 ?_
         obtain ⟨_, rfl⟩ := r6.ok0 (strsR_oof _ _) h9
         subst h9
         exact RR.ok_ _ _
       · exact r6.thru (strsR_oof _ _) h9 _ _
     · simp [LeA, LeL, LeD, tstA, kidsD, kidsL_eq, Tst.kind, Tst.mat, Tst.part, Tst.names, Tst.keys, Tst.over, Tst.limit, tsA]
    refine Zk ?_
    refine Zp 24 ?_
    refine AWp.ret ?_
    apply endW_r [b4, b6] [] [b] [] (by (try simp only [go_sem, fb6]) <;> rfl)
    · refine ⟨(.mk k 1 1 a5 [] false 0 []), n5, f5, e5, rfl, by first | rfl | (simp only [go_sem, fb4, fb6]; done) | (simp only [go_sem, fb4, fb6, hlt, hgd]; rfl), by omega, ?_⟩
      rw [cmpR, hte, Rd.bind_ok]
      exact r5.thru (strsR_oof _ _) hc7 _ _
    · simp [LeA, LeL, LeD, tstA, kidsD, kidsL_eq, Tst.kind, Tst.mat, Tst.part, Tst.names, Tst.keys, Tst.over, Tst.limit, tsA]
   have x6 : ¬ (p2 = 0 ∧ ¬ k = 6) := by rintro ⟨h8, h9⟩; simp [h8, h9] at hc6
   refine Zk ?_
   refine Zx (Zy ?_)
   refine ZA [b] [] (pstrs_c T b l j _ _ hl h1) ?_
   rintro _ _ ⟨a5, n5, f5, e5, rfl, rfl, ub5, r5⟩
   have hte : tagS l k i 0 0 = .ok (1, p2) j := by rw [h2, tg_0 hx2, if_pos hc5, if_neg x6]
   simp only [go_sem, fb4, fb6]
   refine Zm 15 ?_
   refine Zs (Zp 271 ?_)
   refine Zc (fun hc7 => ?_) fun hc7 => ?_
   ·
    obtain ⟨o1, o2⟩ := r5.ok0 (strsR_oof _ _) hc7
    have o3 := strsR_le _ _ _ _ o1
    subst hc7 o2
    refine Zq fun K_ k_ => ?_
    refine Zy ?_
    refine ZA [b] [] (pstrs_c T b l n5 _ _ hl o3.2.1) ?_
    rintro _ _ ⟨a6, n6, f6, e6, rfl, rfl, ub6, r6⟩
    simp only [go_sem, fb4, fb6]
    refine k_ _ _ (thenQ_n ?_)
    refine Zm 14 ?_
    refine Zp 12 ?_
    refine AWp.ret ?_
    apply endW_r [b4, b6] [] [b] [] (by (try simp only [go_sem, fb6]) <;> rfl)
    · refine ⟨(.mk k 1 p2 a5 a6 false 0 []), n6, f6, e6, rfl, by first | rfl | (simp only [go_sem, fb4, fb6]; done) | (simp only [go_sem, fb4, fb6, hlt, hgd]; rfl), by omega, ?_⟩
      rw [cmpR, hte, Rd.bind_ok, o1, Rd.bind_ok]
      by_cases h9 : e6 = 0
      · refine r6.next (strsR_oof _ _) h9 ?_
        obtain ⟨_, rfl⟩ := r6.ok0 (strsR_oof _ _) h9
        subst h9
        exact RR.ok_ _ _
      · exact r6.thru (strsR_oof _ _) h9 _ _
    · simp [LeA, LeL, LeD, tstA, kidsD, kidsL_eq, Tst.kind, Tst.mat, Tst.part, Tst.names, Tst.keys, Tst.over, Tst.limit, tsA]
   refine Zk ?_
   refine Zp 24 ?_
   refine AWp.ret ?_
   apply endW_r [b4, b6] [] [b] [] (by (try simp only [go_sem, fb6]) <;> rfl)
   · refine ⟨(.mk k 1 p2 a5 [] false 0 []), n5, f5, e5, rfl, by first | rfl | (simp only [go_sem, fb4, fb6]; done) | (simp only [go_sem, fb4, fb6, hlt, hgd]; rfl), by omega, ?_⟩
     rw [cmpR, hte, Rd.bind_ok]
     exact r5.thru (strsR_oof _ _) hc7 _ _
   · simp [LeA, LeL, LeD, tstA, kidsD, kidsL_eq, Tst.kind, Tst.mat, Tst.part, Tst.names, Tst.keys, Tst.over, Tst.limit, tsA]
  refine Zk ?_
  refine Zs (Zp 4111 ?_)
  refine Zc (fun hc6 => ?_) fun hc6 => ?_
  ·
   have x6 : p2 = 0 ∧ ¬ k = 6 := hc6
   refine Zr (thenQ_n ?_)
   refine Zx (Zy ?_)
   refine ZA [b] [] (pstrs_c T b l j _ _ hl h1) ?_
   rintro _ _ ⟨a5, n5, f5, e5, rfl, rfl, ub5, r5⟩
   have hte : tagS l k i 0 0 = .ok (m2, 1) j := by rw [h2, tg_0 hx2, if_neg hc5, if_pos x6]
   simp only [go_sem, fb4, fb6]
   refine Zm 15 ?_
   refine Zs (Zp 271 ?_)
   refine Zc (fun hc7 => ?_) fun hc7 => ?_
   ·
    obtain ⟨o1, o2⟩ := r5.ok0 (strsR_oof _ _) hc7
    have o3 := strsR_le _ _ _ _ o1
    subst hc7 o2
    refine Zq fun K_ k_ => ?_
    refine Zy ?_
    refine ZA [b] [] (pstrs_c T b l n5 _ _ hl o3.2.1) ?_
    rintro _ _ ⟨a6, n6, f6, e6, rfl, rfl, ub6, r6⟩
    simp only [go_sem, fb4, fb6]
    refine k_ _ _ (thenQ_n ?_)
    refine Zm 14 ?_
    refine Zp 12 ?_
    refine AWp.ret ?_
    apply endW_r [b4, b6] [] [b] [] (by (try simp only [go_sem, fb6]) <;> rfl)
    · refine ⟨(.mk k m2 1 a5 a6 false 0 []), n6, f6, e6, rfl, by first | rfl | (simp only [go_sem, fb4, fb6]; done) | (simp only [go_sem, fb4, fb6, hlt, hgd]; rfl), by omega, ?_⟩
      rw [cmpR, hte, Rd.bind_ok, o1, Rd.bind_ok]
      by_cases h9 : e6 = 0
      · refine r6.next (strsR_oof _ _) h9 ?_
        obtain ⟨_, rfl⟩ := r6.ok0 (strsR_oof _ _) h9
        subst h9
        exact RR.ok_ _ _
      · exact r6.thru (strsR_oof _ _) h9 _ _
    · simp [LeA, LeL, LeD, tstA, kidsD, kidsL_eq, Tst.kind, Tst.mat, Tst.part, Tst.names, Tst.keys, Tst.over, Tst.limit, tsA]
   refine Zk ?_
   refine Zp 24 ?_
   refine AWp.ret ?_
   apply endW_r [b4, b6] [] [b] [] (by (try simp only [go_sem, fb6]) <;> rfl)
   · refine ⟨(.mk k m2 1 a5 [] false 0 []), n5, f5, e5, rfl, by first | rfl | (simp only [go_sem, fb4, fb6]; done) | (simp only [go_sem, fb4, fb6, hlt, hgd]; rfl), by omega, ?_⟩
     rw [cmpR, hte, Rd.bind_ok]
     exact r5.thru (strsR_oof _ _) hc7 _ _
   · simp [LeA, LeL, LeD, tstA, kidsD, kidsL_eq, Tst.kind, Tst.mat, Tst.part, Tst.names, Tst.keys, Tst.over, Tst.limit, tsA]
  have x6 : ¬ (p2 = 0 ∧ ¬ k = 6) := by rintro ⟨h8, h9⟩; simp [h8, h9] at hc6
  refine Zk ?_
  refine Zx (Zy ?_)
  refine ZA [b] [] (pstrs_c T b l j _ _ hl h1) ?_
  rintro _ _ ⟨a5, n5, f5, e5, rfl, rfl, ub5, r5⟩
  have hte : tagS l k i 0 0 = .ok (m2, p2) j := by rw [h2, tg_0 hx2, if_neg hc5, if_neg x6]
  simp only [go_sem, fb4, fb6]
  refine Zm 15 ?_
  refine Zs (Zp 271 ?_)
  refine Zc (fun hc7 => ?_) fun hc7 => ?_
  ·
   obtain ⟨o1, o2⟩ := r5.ok0 (strsR_oof _ _) hc7
   have o3 := strsR_le _ _ _ _ o1
   subst hc7 o2
   refine Zq fun K_ k_ => ?_
   refine Zy ?_
   refine ZA [b] [] (pstrs_c T b l n5 _ _ hl o3.2.1) ?_
   rintro _ _ ⟨a6, n6, f6, e6, rfl, rfl, ub6, r6⟩
   simp only [go_sem, fb4, fb6]
   refine k_ _ _ (thenQ_n ?_)
   refine Zm 14 ?_
   refine Zp 12 ?_
   refine AWp.ret ?_
   apply endW_r [b4, b6] [] [b] [] (by (try simp only [go_sem, fb6]) <;> rfl)
   · refine ⟨(.mk k m2 p2 a5 a6 false 0 []), n6, f6, e6, rfl, by first | rfl | (simp only [go_sem, fb4, fb6]; done) | (simp only [go_sem, fb4, fb6, hlt, hgd]; rfl), by omega, ?_⟩
     rw [cmpR, hte, Rd.bind_ok, o1, Rd.bind_ok]
     by_cases h9 : e6 = 0
     · refine r6.next (strsR_oof _ _) h9 ?_
       obtain ⟨_, rfl⟩ := r6.ok0 (strsR_oof _ _) h9
       subst h9
       exact RR.ok_ _ _
     · exact r6.thru (strsR_oof _ _) h9 _ _
   · simp [LeA, LeL, LeD, tstA, kidsD, kidsL_eq, Tst.kind, Tst.mat, Tst.part, Tst.names, Tst.keys, Tst.over, Tst.limit, tsA]
  refine Zk ?_
  refine Zp 24 ?_
  refine AWp.ret ?_
  apply endW_r [b4, b6] [] [b] [] (by (try simp only [go_sem, fb6]) <;> rfl)
  · refine ⟨(.mk k m2 p2 a5 [] false 0 []), n5, f5, e5, rfl, by first | rfl | (simp only [go_sem, fb4, fb6]; done) | (simp only [go_sem, fb4, fb6, hlt, hgd]; rfl), by omega, ?_⟩
    rw [cmpR, hte, Rd.bind_ok]
    exact r5.thru (strsR_oof _ _) hc7 _ _
  · simp [LeA, LeL, LeD, tstA, kidsD, kidsL_eq, Tst.kind, Tst.mat, Tst.part, Tst.names, Tst.keys, Tst.over, Tst.limit, tsA]
 have hlt : ((j : Int) < (l.length : Int)) = False := by simp; omega
 have hx2 : nx l j 2 = false := by simp [nx, Nat.not_lt.2 hl2]
 refine Zp 2097167 ?_
 refine Zc (fun hc0 => ?_) fun hc0 => ?_
 ·
  exact absurd hc0 (by first | (simp; done) | omega | (simp [*]; done))
 have hx2 : nx l j 2 = false := by first | exact hx2 | (simp only [nx, hge2, Bool.and_eq_false_iff, decide_eq_false_iff_not]; rcases hc0 with h9 | h9; exact absurd trivial h9; exact .inr h9)
 refine AWp.exit (thenQ_e (thenQ_e (blkQ_e (thenQ_n ?_))))
 refine Zs (Zp 143 ?_)
 refine Zc (fun hc5 => ?_) fun hc5 => ?_
 ·
  refine Zr (thenQ_n ?_)
  refine Zs (Zp 8207 ?_)
  refine Zc (fun hc6 => ?_) fun hc6 => ?_
  ·
   have x6 : p2 = 0 ∧ ¬ k = 6 := hc6
   refine Zr (thenQ_n ?_)
   refine Zx (Zy ?_)
   refine ZA [b] [] (pstrs_c T b l j _ _ hl h1) ?_
   rintro _ _ ⟨a5, n5, f5, e5, rfl, rfl, ub5, r5⟩
   have hte : tagS l k i 0 0 = .ok (1, 1) j := by rw [h2, tg_0 hx2, if_pos hc5, if_pos x6]
   simp only [go_sem, fb4, fb6]
   refine Zm 15 ?_
   refine Zs (Zp 271 ?_)
   refine Zc (fun hc7 => ?_) fun hc7 => ?_
   ·
    obtain ⟨o1, o2⟩ := r5.ok0 (strsR_oof _ _) hc7
    have o3 := strsR_le _ _ _ _ o1
    subst hc7 o2
    refine Zq fun K_ k_ => ?_
    refine Zy ?_
    refine ZA [b] [] (pstrs_c T b l n5 _ _ hl o3.2.1) ?_
    rintro _ _ ⟨a6, n6, f6, e6, rfl, rfl, ub6, r6⟩
    simp only [go_sem, fb4, fb6]
    refine k_ _ _ (thenQ_n ?_)
    refine Zm 14 ?_
    refine Zp 12 ?_
    refine AWp.ret ?_
    apply endW_r [b4, b6] [] [b] [] (by (try simp only [go_sem, fb6]) <;> rfl)
    · refine ⟨(.mk k 1 1 a5 a6 false 0 []), n6, f6, e6, rfl, by first | rfl | (simp only [go_sem, fb4, fb6]; done) | (simp only [go_sem, fb4, fb6, hlt, false_imp_iff]; rfl), by omega, ?_⟩
      rw [cmpR, hte, Rd.bind_ok, o1, Rd.bind_ok]
      by_cases h9 : e6 = 0
      · refine r6.next (strsR_oof _ _) h9 ?_
        obtain ⟨_, rfl⟩ := r6.ok0 (strsR_oof _ _) h9
        subst h9
        exact RR.ok_ _ _
      · exact r6.thru (strsR_oof _ _) h9 _ _
    · simp [LeA, LeL, LeD, tstA, kidsD, kidsL_eq, Tst.kind, Tst.mat, Tst.part, Tst.names, Tst.keys, Tst.over, Tst.limit, tsA]
   refine Zk ?_
   refine Zp 24 ?_
   refine AWp.ret ?_
   apply endW_r [b4, b6] [] [b] [] (by (try simp only [go_sem, fb6]) <;> rfl)
   · refine ⟨(.mk k 1 1 a5 [] false 0 []), n5, f5, e5, rfl, by first | rfl | (simp only [go_sem, fb4, fb6]; done) | (simp only [go_sem, fb4, fb6, hlt, false_imp_iff]; rfl), by omega, ?_⟩
     rw [cmpR, hte, Rd.bind_ok]
     exact r5.thru (strsR_oof _ _) hc7 _ _
   · simp [LeA, LeL, LeD, tstA, kidsD, kidsL_eq, Tst.kind, Tst.mat, Tst.part, Tst.names, Tst.keys, Tst.over, Tst.limit, tsA]
  have x6 : ¬ (p2 = 0 ∧ ¬ k = 6) := by rintro ⟨h8, h9⟩; simp [h8, h9] at hc6
  refine Zk ?_
  refine Zx (Zy ?_)
  refine ZA [b] [] (pstrs_c T b l j _ _ hl h1) ?_
  rintro _ _ ⟨a5, n5, f5, e5, rfl, rfl, ub5, r5⟩
  have hte : tagS l k i 0 0 = .ok (1, p2) j := by rw [h2, tg_0 hx2, if_pos hc5, if_neg x6]
  simp only [go_sem, fb4, fb6]
  refine Zm 15 ?_
  refine Zs (Zp 271 ?_)
  refine Zc (fun hc7 => ?_) fun hc7 => ?_
  ·
   obtain ⟨o1, o2⟩ := r5.ok0 (strsR_oof _ _) hc7
   have o3 := strsR_le _ _ _ _ o1
   subst hc7 o2
   refine Zq fun K_ k_ => ?_
   refine Zy ?_
   refine ZA [b] [] (pstrs_c T b l n5 _ _ hl o3.2.1) ?_
   rintro _ _ ⟨a6, n6, f6, e6, rfl, rfl, ub6, r6⟩
   simp only [go_sem, fb4, fb6]
   refine k_ _ _ (thenQ_n ?_)
   refine Zm 14 ?_
   refine Zp 12 ?_
   refine AWp.ret ?_
   apply endW_r [b4, b6] [] [b] [] (by (try simp only [go_sem, fb6]) <;> rfl)
   · refine ⟨(.mk k 1 p2 a5 a6 false 0 []), n6, f6, e6, rfl, by first | rfl | (simp only [go_sem, fb4, fb6]; done) | (simp only [go_sem, fb4, fb6, hlt, false_imp_iff]; rfl), by omega, ?_⟩
     rw [cmpR, hte, Rd.bind_ok, o1, Rd.bind_ok]
     by_cases h9 : e6 = 0
     · refine r6.next (strsR_oof _ _) h9 ?_
       obtain ⟨_, rfl⟩ := r6.ok0 (strsR_oof _ _) h9
       subst h9
       exact RR.ok_ _ _
     · exact r6.thru (strsR_oof _ _) h9 _ _
   · simp [LeA, LeL, LeD, tstA, kidsD, kidsL_eq, Tst.kind, Tst.mat, Tst.part, Tst.names, Tst.keys, Tst.over, Tst.limit, tsA]
  refine Zk ?_
  refine Zp 24 ?_
  refine AWp.ret ?_
  apply endW_r [b4, b6] [] [b] [] (by (try simp only [go_sem, fb6]) <;> rfl)
  · refine ⟨(.mk k 1 p2 a5 [] false 0 []), n5, f5, e5, rfl, by first | rfl | (simp only [go_sem, fb4, fb6]; done) | (simp only [go_sem, fb4, fb6, hlt, false_imp_iff]; rfl), by omega, ?_⟩
    rw [cmpR, hte, Rd.bind_ok]
    exact r5.thru (strsR_oof _ _) hc7 _ _
  · simp [LeA, LeL, LeD, tstA, kidsD, kidsL_eq, Tst.kind, Tst.mat, Tst.part, Tst.names, Tst.keys, Tst.over, Tst.limit, tsA]
 refine Zk ?_
 refine Zs (Zp 4111 ?_)
 refine Zc (fun hc6 => ?_) fun hc6 => ?_
 ·
  have x6 : p2 = 0 ∧ ¬ k = 6 := hc6
  refine Zr (thenQ_n ?_)
  refine Zx (Zy ?_)
  refine ZA [b] [] (pstrs_c T b l j _ _ hl h1) ?_
  rintro _ _ ⟨a5, n5, f5, e5, rfl, rfl, ub5, r5⟩
  have hte : tagS l k i 0 0 = .ok (m2, 1) j := by rw [h2, tg_0 hx2, if_neg hc5, if_pos x6]
  simp only [go_sem, fb4, fb6]
  refine Zm 15 ?_
  refine Zs (Zp 271 ?_)
  refine Zc (fun hc7 => ?_) fun hc7 => ?_
  ·
   obtain ⟨o1, o2⟩ := r5.ok0 (strsR_oof _ _) hc7
   have o3 := strsR_le _ _ _ _ o1
   subst hc7 o2
   refine Zq fun K_ k_ => ?_
   refine Zy ?_
   refine ZA [b] [] (pstrs_c T b l n5 _ _ hl o3.2.1) ?_
   rintro _ _ ⟨a6, n6, f6, e6, rfl, rfl, ub6, r6⟩
   simp only [go_sem, fb4, fb6]
   refine k_ _ _ (thenQ_n ?_)
   refine Zm 14 ?_
   refine Zp 12 ?_
   refine AWp.ret ?_
   apply endW_r [b4, b6] [] [b] [] (by (try simp only [go_sem, fb6]) <;> rfl)
   · refine ⟨(.mk k m2 1 a5 a6 false 0 []), n6, f6, e6, rfl, by first | rfl | (simp only [go_sem, fb4, fb6]; done) | (simp only [go_sem, fb4, fb6, hlt, false_imp_iff]; rfl), by omega, ?_⟩
     rw [cmpR, hte, Rd.bind_ok, o1, Rd.bind_ok]
     by_cases h9 : e6 = 0
     · refine r6.next (strsR_oof _ _) h9 ?_
       obtain ⟨_, rfl⟩ := r6.ok0 (strsR_oof _ _) h9
       subst h9
       exact RR.ok_ _ _
     · exact r6.thru (strsR_oof _ _) h9 _ _
   · simp [LeA, LeL, LeD, tstA, kidsD, kidsL_eq, Tst.kind, Tst.mat, Tst.part, Tst.names, Tst.keys, Tst.over, Tst.limit, tsA]
  refine Zk ?_
  refine Zp 24 ?_
  refine AWp.ret ?_
  apply endW_r [b4, b6] [] [b] [] (by (try simp only [go_sem, fb6]) <;> rfl)
  · refine ⟨(.mk k m2 1 a5 [] false 0 []), n5, f5, e5, rfl, by first | rfl | (simp only [go_sem, fb4, fb6]; done) | (simp only [go_sem, fb4, fb6, hlt, false_imp_iff]; rfl), by omega, ?_⟩
    rw [cmpR, hte, Rd.bind_ok]
    exact r5.thru (strsR_oof _ _) hc7 _ _
  · simp [LeA, LeL, LeD, tstA, kidsD, kidsL_eq, Tst.kind, Tst.mat, Tst.part, Tst.names, Tst.keys, Tst.over, Tst.limit, tsA]
 have x6 : ¬ (p2 = 0 ∧ ¬ k = 6) := by rintro ⟨h8, h9⟩; simp [h8, h9] at hc6
 refine Zk ?_
 refine Zx (Zy ?_)
 refine ZA [b] [] (pstrs_c T b l j _ _ hl h1) ?_
 rintro _ _ ⟨a5, n5, f5, e5, rfl, rfl, ub5, r5⟩
 have hte : tagS l k i 0 0 = .ok (m2, p2) j := by rw [h2, tg_0 hx2, if_neg hc5, if_neg x6]
 simp only [go_sem, fb4, fb6]
 refine Zm 15 ?_
 refine Zs (Zp 271 ?_)
 refine Zc (fun hc7 => ?_) fun hc7 => ?_
 ·
  obtain ⟨o1, o2⟩ := r5.ok0 (strsR_oof _ _) hc7
  have o3 := strsR_le _ _ _ _ o1
  subst hc7 o2
  refine Zq fun K_ k_ => ?_
  refine Zy ?_
  refine ZA [b] [] (pstrs_c T b l n5 _ _ hl o3.2.1) ?_
  rintro _ _ ⟨a6, n6, f6, e6, rfl, rfl, ub6, r6⟩
  simp only [go_sem, fb4, fb6]
  refine k_ _ _ (thenQ_n ?_)
  refine Zm 14 ?_
  refine Zp 12 ?_
  refine AWp.ret ?_
  apply endW_r [b4, b6] [] [b] [] (by (try simp only [go_sem, fb6]) <;> rfl)
  · refine ⟨(.mk k m2 p2 a5 a6 false 0 []), n6, f6, e6, rfl, by first | rfl | (simp only [go_sem, fb4, fb6]; done) | (simp only [go_sem, fb4, fb6, hlt, false_imp_iff]; rfl), by omega, ?_⟩
    rw [cmpR, hte, Rd.bind_ok, o1, Rd.bind_ok]
    by_cases h9 : e6 = 0
    · refine r6.next (strsR_oof _ _) h9 ?_
      obtain ⟨_, rfl⟩ := r6.ok0 (strsR_oof _ _) h9
      subst h9
      exact RR.ok_ _ _
    · exact r6.thru (strsR_oof _ _) h9 _ _
  · simp [LeA, LeL, LeD, tstA, kidsD, kidsL_eq, Tst.kind, Tst.mat, Tst.part, Tst.names, Tst.keys, Tst.over, Tst.limit, tsA]
 refine Zk ?_
 refine Zp 24 ?_
 refine AWp.ret ?_
 apply endW_r [b4, b6] [] [b] [] (by (try simp only [go_sem, fb6]) <;> rfl)
 · refine ⟨(.mk k m2 p2 a5 [] false 0 []), n5, f5, e5, rfl, by first | rfl | (simp only [go_sem, fb4, fb6]; done) | (simp only [go_sem, fb4, fb6, hlt, false_imp_iff]; rfl), by omega, ?_⟩
   rw [cmpR, hte, Rd.bind_ok]
   exact r5.thru (strsR_oof _ _) hc7 _ _
 · simp [LeA, LeL, LeD, tstA, kidsD, kidsL_eq, Tst.kind, Tst.mat, Tst.part, Tst.names, Tst.keys, Tst.over, Tst.limit, tsA]
end
section
theorem isT_in {l : List Tk} {i : Nat} {k : Int} {s : Tx} (h : i < l.length) : isT l i k s = (decide ((l[i]).kind = k) && decide ((l[i]).text = s)) := by simp [isT, h, List.getD]
theorem isT_out {l : List Tk} {i : Nat} {k : Int} {s : Tx} (h : l.length ≤ i) : isT l i k s = false := by simp [isT, Nat.not_lt.2 h]
attribute [local go_sem] pob tcast nA tA txA tsA tstA Int.toNat_natCast Bool.false_eq_true decide_true Bool.not_true Bool.not_false decide_false tkD List.drop_nil List.take_nil List.map_nil List.headD_nil Bool.true_eq_false true_and and_true in
theorem ptest_s (T : Tbl) (nn : Nat) (ih : ∀ m, m ≤ nn → ∀ (b : Nat) (l : List Tk) (i d : Nat) (F : List (Nat × Ob)) (L : List Nat), l.length ≤ 400 → i ≤ l.length → d ≤ 7 → testR m l i d ≠ .oof → AC Tryz.prog T 241 [.ptr b 3 0 0, .d (.int .i64 (i : Nat)), .d (.int .i64 (d : Nat))] ⟨pob b l 0 0 :: F, L⟩ (RE 500 b F L l tsA (testR m l i d))) (b : Nat) (l : List Tk) (i d : Nat) (F : List (Nat × Ob)) (L : List Nat) (hl : l.length ≤ 400) (hi : i ≤ l.length) (hd7 : d ≤ 7) (hno : testR (nn + 1) l i d ≠ .oof) : AC Tryz.prog T 241 [.ptr b 3 0 0, .d (.int .i64 (i : Nat)), .d (.int .i64 (d : Nat))] (⟨pob b l 0 0 :: F, L⟩) (RE 500 b F L l tsA (testR (nn + 1) l i d)) := by
 refine ⟨Tryz.call241, ACalls.enterS Tryz.func241 rfl Tryz.ntmps241 rfl fun hb => ?_⟩
 simp only [go_sem, Tryz.results241]
 refine Zx (Zy ?_)
 intro b6
 first | intro fb6 | have fb6 := True.intro
 try simp only [freshL] at fb6
 refine Zs (Zp 32783 ?_)
 refine Zc (fun hc0 => ?_) fun hc0 => ?_
 ·
  have hd0 : 6 < d ∧ i < l.length := by omega
  refine Zx (Zy ?_)
  refine ZA [b] [] (pstop_c T b l (i) _ _ 1 (by decide)) ?_
  rintro _ _ ⟨rfl, rfl⟩
  simp only [go_sem, fb6]
  refine Zm 24 ?_
  refine AWp.ret ?_
  simp only [thenQ]
  apply endW_r [b6] [] [b] [] (by (try simp only [go_sem, fb6]) <;> rfl)
  · refine ⟨tst0, i, _, _, rfl, by first | rfl | (simp only [go_sem, fb6]; done) | (simp only [go_sem, fb6]; rfl), by omega, ?_⟩
    rw [te_1 hd0]
    exact RR.er_ _ _ (gv_ne (by decide))
  · simp [LeA, LeL, LeD, tstA, kidsD, kidsL_eq, tst0, Tst.kind, Tst.mat, Tst.part, Tst.names, Tst.keys, Tst.over, Tst.limit, tsA]
 have hd0 : ¬ (6 < d ∧ i < l.length) := by omega
 refine Zk ?_
 refine Zx (Zy ?_)
 intro b8
 first | intro fb8 | have fb8 := True.intro
 try simp only [freshL] at fb8
 refine Zs (Zp 63 ?_)
 refine AWp.block (Zy ?_)
 refine Zl 31 32 (fun n lc hc => ∃ (q : Nat) (kd : Int), n = 11 - q ∧ EqS lc [(9, .d (.int .i64 (q : Nat)))] ∧ EqS hc (⟨(b8, ⟨8, 1, [[.d (.int .i64 kd), .d (.int .i64 0), .d (.int .i64 0), .nils, .nils, .d (.bool false), .d (.int .i64 0), .nils]]⟩) :: (b6, ⟨8, 1, [[.d (.int .i64 0), .d (.int .i64 0), .d (.int .i64 0), .nils, .nils, .d (.bool false), .d (.int .i64 0), .nils]]⟩) :: pob b l 0 0 :: F, L⟩) ∧ (1 ≤ q) ∧ (q ≤ 11) ∧ (kdS tsT l i q = kd)) ?_ ?_
 · refine ⟨_, 1, 0, rfl, ZE, ZE, ?_, ?_, ?_⟩
   all_goals (first | omega | exact kdS_1 _ _ _)
 rintro _ _ _ ⟨q, kd, rfl, ⟨rfl⟩, ⟨rfl⟩, h1, h2, h3⟩
 refine Zy ?_
 refine Zs (Zp 191 ?_)
 refine Zc (fun hc1 => ?_) fun hc1 => ?_
 ·
  refine Zk ?_
  refine Zs (AWp.block (Zx (Zy ?_)))
  refine DW.pcr rfl rfl rfl rfl (ptestWord_c T _ (by omega) (by omega)) rfl rfl ?_
  refine Zy ?_
  refine ZA [b] [] (pisWord_c T b l (i) _ _ _ _ _) ?_
  rintro _ _ ⟨rfl, rfl⟩
  refine Zy ?_
  refine Zm 2111 ?_
  refine Zc (fun hc2 => ?_) fun hc2 => ?_
  ·
   refine Zr (blkQ_n (thenQ_n ?_))
   refine Zr (thenQ_n ?_)
   refine Ze 31 32 [] [] [b8, b6, b] [] (.e ⟨_, ZM, (q + 1), (q : Int), rfl, ZE, ZE, ?_, ?_, ?_⟩)
   · omega
   · omega
   · exact (kdS_t tsT_nd (by omega) (show q < 11 by omega) hc2)
  refine AWp.skip (blkQ_n (thenQ_n ?_))
  refine Zr (thenQ_n ?_)
  refine Ze 31 32 [] [] [b8, b6, b] [] (.e ⟨_, ZM, (q + 1), kd, rfl, ZE, ZE, ?_, ?_, ?_⟩)
  · omega
  · omega
  · exact (kdS_f tsT_nd (show q < 11 by omega) (by simpa using hc2)).trans h3
 obtain rfl : q = 11 := by omega
 refine AWp.exit (thenQ_e (thenQ_e (blkQ_e (thenQ_n ?_))))
 refine Zs (Zp 543 ?_)
 refine Zc (fun hc3 => ?_) fun hc3 => ?_
 ·
  have hw : wordR l i tsT = .err i 3 := kdS_er (h3.trans hc3)
  refine AWp.dsN false [1, 2] [0] [3] 4 [5] rfl (by kernel_rfl) rfl fun K_ hK_ => ?_
  refine Zy ?_
  refine Exists.intro (fun h' : AH => getO b8 h'.objs = some ⟨8, 1, [[.d (.int .i64 kd), .d (.int .i64 0), .d (.int .i64 0), .nils, .nils, .d (.bool false), .d (.int .i64 0), .nils]]⟩) (And.intro (by simp [getO]) ?_)
  refine Zy ?_
  refine FRN.ld rfl rfl (fun h' m1 => (by first | rfl | (simp only [go_sem, m1]; first | done | rfl | exact ⟨by omega, rfl⟩))) ?_
  refine Zy ?_
  refine FRN.nil ?_
  refine DW.acp [b] [] rfl rfl rfl rfl (by (try simp only [go_sem, fb6, fb8]) <;> rfl) rfl (pstop_c T b l (i) _ _ 3 (by decide)) ?_
  rintro _ _ ⟨rfl, rfl⟩
  simp only [go_sem, fb8]
  first | with_reducible refine And.intro (by simp [getO, fb6, fb8]) ?_ | skip
  refine lvc_ok _ _ _ ?_
  simp only [go_sem, fb6, fb8]
  refine hK_ _ _ ?_
  refine Zm 24 ?_
  refine AWp.ret ?_
  simp only [thenQ]
  apply endW_r [b6, b8] [] [b] [] (by (try simp only [go_sem, fb6, fb8]) <;> rfl)
  · refine ⟨(.mk kd 0 0 [] [] false 0 []), i, _, _, rfl, by first | rfl | (simp only [go_sem, fb6, fb8]; done) | (simp only [go_sem, fb6, fb8]; rfl), by omega, ?_⟩
    rw [te_w hd0 hw]
    exact RR.er_ _ _ (gv_ne (by decide))
  · simp [LeA, LeL, LeD, tstA, kidsD, kidsL_eq, Tst.kind, Tst.mat, Tst.part, Tst.names, Tst.keys, Tst.over, Tst.limit, tsA]
 have hw : wordR l i tsT = .ok kd (i + 1) := by have h9 := kdS_ok (tab := tsT) (l := l) (i := i) (fun h8 => hc3 (h3.symm.trans h8)); rw [show kdS tsT l i tsT.length = kd from h3] at h9; exact h9
 obtain ⟨w1, w2, w3, w4⟩ := wordR_ok hw
 clear w3 w4
 have wlt := nx_lt w1
 refine Zk ?_
 refine Zp 31 ?_
 refine Zy ?_
 obtain ⟨j, hj⟩ : ∃ j : Nat, i + 1 = j := ⟨_, rfl⟩
 rw [hj]
 rw [hj] at hw
 refine Zs (Zp 95 ?_)
 refine AWp.block (Zp 127 ?_)
 refine Zc (fun hc4 => ?_) fun hc4 => ?_
 ·
  subst hc4
  have hno2 : testR nn l j (d + 1) ≠ .oof := by have h9 := hno; rw [te_3 hd0 hw] at h9; exact Rd.bind_no h9
  have hd6 : d + 1 ≤ 7 := by rcases Nat.lt_or_ge 6 d with h9 | h9; exact absurd ⟨h9, wlt⟩ hd0; omega
  refine Zx (Zy ?_)
  (repeat (with_reducible refine And.intro ZS ?_))
  refine DW.acp [b] [] rfl rfl rfl rfl (by (try simp only [go_sem, fb6, fb8]) <;> rfl) rfl (ih nn (Nat.le_refl _) b l j (d + 1) _ _ hl (by omega) hd6 hno2) ?_
  rintro _ _ ⟨ax, nx, fx, ex, rfl, rfl, ubx, rx⟩
  refine Zy ?_
  intro b10
  first | intro fb10 | have fb10 := True.intro
  try simp only [freshL] at fb10
  refine Zn 120 ?_
  refine AWp.ownNilH b8 0 7 8 (by (try simp only [go_sem, fb8, fb10]) <;> rfl) rfl rfl (by decide) fun t9 ft9 => ?_
  try simp only [freshT] at ft9
  simp only [go_sem, fb8, fb10]
  refine Zx ?_
  simp only [go_sem, fb8, fb10]
  refine ZW fun t1 ft1 => ?_
  try simp only [freshT] at ft1
  simp only [go_sem, fb8, fb10]
  refine Zm 11 ?_
  refine Zr (blkQ_n (thenQ_n ?_))
  refine Zp 6 ?_
  refine AWp.ret ?_
  apply endW_r [b6, b8, b10] [t1] [b] [] (by (try simp only [go_sem, fb6, fb8, fb10]) <;> rfl)
  · refine ⟨(.mk 3 0 0 [] [] false 0 [ax]), nx, fx, ex, rfl, by first | rfl | (simp only [go_sem, fb6, fb8, fb10]; done) | (simp only [go_sem, fb6, fb8, fb10, ft9, ft1]; rfl), by omega, ?_⟩
    rw [te_3 hd0 hw]
    by_cases h9 : ex = 0
    · refine rx.next hno2 h9 ?_
      obtain ⟨_, rfl⟩ := rx.ok0 hno2 h9
      subst h9
      exact RR.ok_ _ _
    · exact rx.thru hno2 h9 _ _
  · simp [LeA, LeL, LeD, tstA, kidsD, kidsL_eq, tstD, Tst.kind, Tst.mat, Tst.part, Tst.names, Tst.keys, Tst.over, Tst.limit, tsA]
 refine Zs (Zp 191 ?_)
 refine Zy ?_
 apply Za (z := (_ || _)) 63 69
 ·
  refine AWp.cond _ rfl (fun hc5 => ?_) fun hc5 => ?_
  rotate_left
  ·
   refine Zr (thenQ_n ?_)
   refine Zf 63 64 (.e ⟨EqS.bo (or_f hc5 rfl), ⟨rfl⟩⟩)
  refine AWp.skip (thenQ_n ?_)
  refine Zf 63 64 (.e ⟨EqS.bo (or_t hc5), ⟨rfl⟩⟩)
 refine Zy ?_
 refine Zc (fun hc6 => ?_) fun hc6 => ?_
 ·
  have hk4 : kd = 4 ∨ kd = 5 := by omega
  have hd6 : d + 1 ≤ 7 := by rcases Nat.lt_or_ge 6 d with h9 | h9; exact absurd ⟨h9, wlt⟩ hd0; omega
  refine Zx (Zy ?_)
  refine ZA [b] [] (pmark_c T b l j _ _ [40] (by omega)) ?_
  rintro _ _ ⟨a9, n9, f9, e9, rfl, rfl, ub9, r9⟩
  refine Zy ?_
  refine Zn 31 ?_
  refine AWp.ownNilH b8 0 7 8 (by (try simp only [go_sem, fb8]) <;> rfl) rfl rfl (by decide) fun t9 ft9 => ?_
  try simp only [freshT] at ft9
  simp only [go_sem, fb8]
  refine Zs (AWp.block (Zl 29 2 (fun n lc hc => ∃ (v m w : Nat) (f e : Int) (acc : List Tst), n = (if e = 0 then m + 1 else 0) ∧ EqS lc [(1, .d (.int .i64 (v : Nat)))] ∧ EqS hc (⟨pob b l f e :: (b8, ⟨8, 1, [[.d (.int .i64 kd), .d (.int .i64 0), .d (.int .i64 0), .nils, .nils, .d (.bool false), .d (.int .i64 0), .own w 8 (acc.map tstD)]]⟩) :: (b6, ⟨8, 1, [[.d (.int .i64 0), .d (.int .i64 0), .d (.int .i64 0), .nils, .nils, .d (.bool false), .d (.int .i64 0), .nils]]⟩) :: F, w :: L⟩) ∧ (v ≤ 500) ∧ (m ≤ nn) ∧ (acc.length ≤ 402) ∧ (freshT w L) ∧ (e = 0 → f = 0 ∧ v ≤ l.length ∧ acc.length ≤ v ∧ testR (nn + 1) l i d = (testR m l v (d + 1)).bind fun x j2 => testsR m l j2 d kd (acc ++ [x])) ∧ (¬ e = 0 → ∀ y m, RR l (testR (nn + 1) l i d) y m f e)) ?_ ?_))
  · refine ⟨_, n9, nn, t9, f9, e9, [], rfl, ZE, ZE, ?_, ?_, ?_, ?_, ?_, ?_⟩
    all_goals (first | omega | (simp; done) | exact ft9 | (intro h; obtain ⟨q1, q2⟩ := r9.ok0 (mustR_oof _ _ _) h; obtain ⟨q3, q4⟩ := mustR_ok q1; have q5 := isT_lt q3; exact ⟨q2, by omega, by simp, by rw [te_4 hd0 hw hk4, q1, Rd.bind_ok]; rfl⟩) | (intro h y m; rw [te_4 hd0 hw hk4]; exact r9.thru (mustR_oof _ _ _) h _ _))
  rintro _ _ _ ⟨v, m, w, f, e, acc, rfl, ⟨rfl⟩, ⟨rfl⟩, g1, g2, g3, g4, g5, g6⟩
  refine Zy ?_
  refine Zs (Zp 543 ?_)
  refine Zc (fun hc7 => ?_) fun hc7 => ?_
  ·
   subst hc7
   obtain ⟨rfl, o2, o3, o4⟩ := g5 rfl
   have hno2 : testR m l v (d + 1) ≠ .oof := by have h9 := hno; rw [o4] at h9; exact Rd.bind_no h9
   refine Zk ?_
   refine AWp.block (Zx (Zy ?_))
   (repeat (with_reducible refine And.intro ZS ?_))
   refine DW.acp [b] [] rfl rfl rfl rfl (by (try simp only [go_sem, fb6, fb8]) <;> rfl) rfl (ih m g2 b l v (d + 1) _ _ hl o2 hd6 hno2) ?_
   rintro _ _ ⟨ax, nx, fx, ex, rfl, rfl, ubx, rx⟩
   refine Zy ?_
   intro b12
   first | intro fb12 | have fb12 := True.intro
   try simp only [freshL] at fb12
   refine Zm 125 ?_
   refine Zx ?_
   simp only [go_sem, fb8, fb12]
   refine ZW fun t2 ft2 => ?_
   try simp only [freshT] at ft2
   simp only [go_sem, fb8, fb12]
   refine Zm 47 ?_
   refine Zp 31 ?_
   refine Zy ?_
   refine AWp.ord [] [] [b] [] (by (try simp only [go_sem, fb12, fb8, fb6]); rfl) ?_
   refine Zs ?_
   by_cases he : ex = 0
   ·
    obtain ⟨q1, q2⟩ := rx.ok0 hno2 he
    subst he q2
    have lx := (test_le m).1 _ _ _ _ _ q1
    have o5 : testR (nn + 1) l i d = testsR m l nx d kd (acc ++ [ax]) := by rw [o4, q1, Rd.bind_ok]
    obtain ⟨m, rfl⟩ : ∃ m2, m = m2 + 1 := by cases m with | zero => exact absurd (by rw [o5, testsR]) hno | succ m => exact ⟨m, rfl⟩
    refine AWp.rsG 8 fun K_ hK_ => ?_
    simp only [List.take_succ_cons, List.take_zero, List.drop_succ_cons, List.drop_zero]
    simp only [go_sem, *]
    refine LV.gcall rfl rfl (by first | rfl | (simp only [go_sem, fb6, fb8, ft9, g4, fb12, ft2, if_false, eq_self, if_true]; done) | (simp only [go_sem, fb6, fb8, ft9, g4, fb12, ft2, if_false, eq_self, if_true]; rfl)) rfl rfl (by rfl) (LeH.refl _) (by first | rfl | (simp only [go_sem, fb6, fb8, ft9, g4, fb12, ft2, if_false, eq_self, if_true]; done) | (simp only [go_sem, fb6, fb8, ft9, g4, fb12, ft2, if_false, eq_self, if_true]; rfl)) (pisMark_c T b l (nx) _ _ _ _ [44]) ?_
    rintro _ _ ⟨rfl, rfl⟩
    refine LV.leH (LeH.refl _) (LV.lvc ?_)
    simp only [go_sem, *]
    refine hK_ _ _ ?_
    refine Zm 32799 ?_
    refine Zc (fun hc8 => ?_) fun hc8 => ?_
    ·
     have him : isT l nx 5 [44] = false := by simpa using hc8
     refine AWp.exit (thenQ_e (blkQ_d (by decide) (thenQ_e (blkQ_e (thenQ_n ?_)))))
     refine Zp 1051 ?_
     refine Zc (fun hc9 => ?_) fun hc9 => ?_
     ·
      refine Zq fun K_ k_ => ?_
      simp only [go_sem, *]
      refine ZA [b] [] (pmark_c T b l nx _ _ [41] (by omega)) ?_
      rintro _ _ ⟨az, nz, fz, ez, rfl, rfl, ubz, rz⟩
      simp only [go_sem, *]
      refine k_ _ _ (blkQ_n (thenQ_n ?_))
      refine Zm 14 ?_
      refine Zp 6 ?_
      refine AWp.ret ?_
      apply endW_r [b6, b8, b12] [t2] [b] [] (by (try simp only [go_sem, fb6, fb8, fb12, if_false, eq_self, if_true]) <;> rfl)
      · refine ⟨(.mk kd 0 0 [] [] false 0 (acc ++ [ax])), nz, fz, ez, rfl, by first | rfl | (simp only [go_sem, fb6, fb8, fb12, if_false, eq_self, if_true]; done) | (simp only [go_sem, fb6, fb8, ft9, g4, fb12, ft2, if_false, eq_self, if_true]; rfl), by omega, ?_⟩
        rw [o5, ts_f him]
        by_cases h9 : ez = 0
        · refine rz.next (mustR_oof _ _ _) h9 ?_
          obtain ⟨_, rfl⟩ := rz.ok0 (mustR_oof _ _ _) h9
          subst h9
          exact RR.ok_ _ _
        · exact rz.thru (mustR_oof _ _ _) h9 _ _
      · simp [LeA, LeL, LeD, tstA, kidsD, kidsL_eq, tstD, Tst.kind, Tst.mat, Tst.part, Tst.names, Tst.keys, Tst.over, Tst.limit, tsA]
     exact absurd hc9 (by first | (simp; done) | omega | (simp [*]; done))
    have him : isT l nx 5 [44] = true := by simpa using hc8
    refine Zk ?_
    refine Zr (blkQ_n (thenQ_n ?_))
    refine Ze 29 2 [b12] [] [b, b8, b6] [t2] (.e ⟨_, ?_, (nx + 1), m, t2, 0, 0, (acc ++ [ax]), rfl, ZE, ?_, ?_, ?_, ?_, ?_, ?_, ?_⟩)
    · first | omega | (simp; omega) | (simp)
    · (try simp only [go_sem, fb6, fb8, fb12, if_false, eq_self, if_true]) <;> first | exact ⟨rfl⟩ | (constructor; simp [tstD]; done)
    · omega
    · omega
    · simp; omega
    · first | exact ft2 | exact ft2.2
    · intro _; exact ⟨rfl, by have := isT_lt him; omega, by simp; omega, by rw [o5, ts_t him]⟩
    · intro h; exact absurd rfl h
   refine Zx ?_
   simp only [go_sem, fb6, fb8, fb12, he]
   refine DW.skipc rfl rfl ?_
   refine Zy ?_
   refine Zm 32799 ?_
   refine Zc (fun hc8 => ?_) fun hc8 => ?_
   ·
    refine AWp.exit (thenQ_e (blkQ_d (by decide) (thenQ_e (blkQ_e (thenQ_n ?_)))))
    refine Zp 1051 ?_
    refine Zc (fun hc9 => ?_) fun hc9 => ?_
    ·
     exact absurd hc9 (by first | (simp; done) | omega | (simp [*]; done))
    refine AWp.skip (blkQ_n (thenQ_n ?_))
    refine Zp 12 ?_
    refine AWp.ret ?_
    apply endW_r [b6, b8, b12] [t2] [b] [] (by (try simp only [go_sem, fb6, fb8, fb12]) <;> rfl)
    · refine ⟨(.mk kd 0 0 [] [] false 0 (acc ++ [ax])), nx, fx, ex, rfl, by first | rfl | (simp only [go_sem, fb6, fb8, fb12]; done) | (simp only [go_sem, fb6, fb8, ft9, g4, fb12, ft2, he]; rfl), by omega, ?_⟩
      rw [o4]
      exact rx.thru hno2 he _ _
    · simp [LeA, LeL, LeD, tstA, kidsD, kidsL_eq, tstD, Tst.kind, Tst.mat, Tst.part, Tst.names, Tst.keys, Tst.over, Tst.limit, tsA]
   exact absurd hc8 (by first | (simp; done) | omega | (simp [*]; done))
  refine AWp.exit (thenQ_e (thenQ_e (blkQ_e (thenQ_n ?_))))
  refine Zp 1051 ?_
  refine Zc (fun hc9 => ?_) fun hc9 => ?_
  ·
   exact absurd hc9 (by simpa using hc7)
  refine AWp.skip (blkQ_n (thenQ_n ?_))
  refine Zp 12 ?_
  refine AWp.ret ?_
  apply endW_r [b6, b8] [w] [b] [] (by (try simp only [go_sem, fb6, fb8]) <;> rfl)
  · refine ⟨(.mk kd 0 0 [] [] false 0 acc), v, f, e, rfl, by first | rfl | (simp only [go_sem, fb6, fb8]; done) | (simp only [go_sem, fb6, fb8, ft9, g4]; rfl), by omega, ?_⟩
    exact g6 hc7 _ _
  · simp [LeA, LeL, LeD, tstA, kidsD, kidsL_eq, Tst.kind, Tst.mat, Tst.part, Tst.names, Tst.keys, Tst.over, Tst.limit, tsA]
 have hk4 : ¬ (kd = 4 ∨ kd = 5) := by omega
 refine Zs (Zp 187 ?_)
 refine Zy ?_
 apply Za (z := (_ || (_ || _))) 31 116
 ·
  refine AWp.cond _ rfl (fun hc10 => ?_) fun hc10 => ?_
  rotate_left
  ·
   refine Zp 63 ?_
   refine AWp.cond _ rfl (fun hc11 => ?_) fun hc11 => ?_
   rotate_left
   ·
    refine Zr (thenQ_n ?_)
    refine Zf 31 32 (.e ⟨EqS.bo (or_f hc10 (or_f hc11 rfl)), ⟨rfl⟩⟩)
   refine AWp.skip (thenQ_n ?_)
   refine Zf 31 32 (.e ⟨EqS.bo (or_f hc10 (or_t hc11)), ⟨rfl⟩⟩)
  refine AWp.skip (thenQ_n ?_)
  refine Zf 31 32 (.e ⟨EqS.bo (or_t hc10), ⟨rfl⟩⟩)
 refine Zy ?_
 refine Zc (fun hc12 => ?_) fun hc12 => ?_
 ·
  have hk6 : kd = 6 ∨ kd = 7 ∨ kd = 8 := by omega
  refine Zq fun K_ k_ => ?_
  simp only [go_sem, fb8]
  refine ZA [b] [] (pcompares_c T b l j kd _ _ hl (by omega)) ?_
  rintro _ _ ⟨av, nv, fv, ev, rfl, rfl, ubv, rv⟩
  simp only [go_sem, fb8]
  refine k_ _ _ (blkQ_n (thenQ_n ?_))
  refine Zm 14 ?_
  refine Zp 6 ?_
  refine AWp.ret ?_
  apply endW_r [b6, b8] [] [b] [] (by (try simp only [go_sem, fb6, fb8]) <;> rfl)
  · refine ⟨av, nv, fv, ev, rfl, by first | rfl | (simp only [go_sem, fb6, fb8]; done) | (simp only [go_sem, fb6, fb8]; rfl), by omega, ?_⟩
    rw [te_6 hd0 hw hk6]
    exact rv
  · simp [LeA, LeL, LeD, tstA, Tst.kind, Tst.mat, Tst.part, Tst.names, Tst.keys, Tst.over, Tst.limit, tsA]
 refine Zp 95 ?_
 refine Zc (fun hc13 => ?_) fun hc13 => ?_
 ·
  subst hc13
  refine Zq fun K_ k_ => ?_
  refine Zy ?_
  refine ZA [b] [] (pstrs_c T b l j _ _ hl (by omega)) ?_
  rintro _ _ ⟨au, nu, fu, eu, rfl, rfl, ubu, ru⟩
  simp only [go_sem, fb8]
  refine k_ _ _ (blkQ_n (thenQ_n ?_))
  refine Zm 14 ?_
  refine Zp 6 ?_
  refine AWp.ret ?_
  apply endW_r [b6, b8] [] [b] [] (by (try simp only [go_sem, fb6, fb8]) <;> rfl)
  · refine ⟨(.mk 9 0 0 au [] false 0 []), nu, fu, eu, rfl, by first | rfl | (simp only [go_sem, fb6, fb8]; done) | (simp only [go_sem, fb6, fb8]; rfl), by omega, ?_⟩
    rw [te_9 hd0 hw]
    by_cases h9 : eu = 0
    · refine ru.next (strsR_oof _ _) h9 ?_
      obtain ⟨_, rfl⟩ := ru.ok0 (strsR_oof _ _) h9
      subst h9
      exact RR.ok_ _ _
    · exact ru.thru (strsR_oof _ _) h9 _ _
  · simp [LeA, LeL, LeD, tstA, kidsD, kidsL_eq, Tst.kind, Tst.mat, Tst.part, Tst.names, Tst.keys, Tst.over, Tst.limit, tsA]
 refine Zp 79 ?_
 refine Zc (fun hc14 => ?_) fun hc14 => ?_
 ·
  subst hc14
  refine Zs ?_
  rcases Nat.lt_or_ge j l.length with hlA | hlA
  ·
   have hltA : (((j : Nat) : Int) < (l.length : Int)) = True := by simp; omega
   have hgeA : ((l.length : Int) ≤ ((j : Nat) : Int)) = False := by simp; omega
   have hgdA := tksD_gD l (j) [] hlA
   have hgqA : l.getD (j) tk0 = l[j] := by simp [List.getD, List.getElem?_eq_getElem hlA]
   refine Zp 17592186044431 ?_
   refine Zc (fun hc15 => ?_) fun hc15 => ?_
   ·
    have hou : ¬ (isT l j 2 overT = true ∨ isT l j 2 underT = true) := by first | (rw [isT_out hlA, isT_out hlA]; simp) | (rw [isT_in hlA, isT_in hlA]; simp only [Bool.and_eq_true, decide_eq_true_eq]; rintro (⟨q1, q2⟩ | ⟨q1, q2⟩) <;> simp [q1, q2, overT, underT] at hc15)
    refine AWp.dsN false [1, 2] [0] [3] 4 [5] rfl (by kernel_rfl) rfl fun K_ hK_ => ?_
    refine Zy ?_
    refine Exists.intro (fun h' : AH => getO b8 h'.objs = some ⟨8, 1, [[.d (.int .i64 10), .d (.int .i64 0), .d (.int .i64 0), .nils, .nils, .d (.bool false), .d (.int .i64 0), .nils]]⟩) (And.intro (by simp [getO]) ?_)
    refine Zy ?_
    refine FRN.ld rfl rfl (fun h' m1 => (by first | rfl | (simp only [go_sem, m1]; first | done | rfl | exact ⟨by omega, rfl⟩))) ?_
    refine Zy ?_
    refine FRN.nil ?_
    refine ZA [b] [] (pstop_c T b l (j) _ _ 3 (by decide)) ?_
    rintro _ _ ⟨rfl, rfl⟩
    simp only [go_sem, fb8]
    first | with_reducible refine And.intro (by simp [getO, fb6, fb8, hgdA, hgeA, hltA]) ?_ | skip
    refine lvc_ok _ _ _ ?_
    simp only [go_sem, fb6, fb8]
    refine hK_ _ _ ?_
    refine Zm 12 ?_
    refine AWp.ret ?_
    simp only [thenQ, blkQ]
    apply endW_r [b6, b8] [] [b] [] (by (try simp only [go_sem, fb6, fb8]) <;> rfl)
    · refine ⟨(.mk 10 0 0 [] [] false 0 []), j, _, _, rfl, by first | rfl | (simp only [go_sem, fb6, fb8]; done) | (simp only [go_sem, fb6, fb8]; rfl), by omega, ?_⟩
      rw [te_s hd0 hw, if_neg hou]
      exact RR.er_ _ _ (gv_ne (by decide))
    · simp [LeA, LeL, LeD, tstA, kidsD, kidsL_eq, Tst.kind, Tst.mat, Tst.part, Tst.names, Tst.keys, Tst.over, Tst.limit, tsA]
   have hou : isT l j 2 overT = true ∨ isT l j 2 underT = true := by rw [isT_in hlA, isT_in hlA]; simp only [Bool.and_eq_true, decide_eq_true_eq, overT, underT]; grind
   have hov : isT l j 2 overT = decide ((l[j]).text = [111, 118, 101, 114]) := by rw [isT_in hlA]; simp only [overT]; rw [show (l[j]).kind = 2 by grind]; simp only [decide_true, Bool.true_and]; exact decide_eq_decide.2 Iff.rfl
   refine Zk ?_
   refine Zp 15 ?_
   refine Zp 15 ?_
   refine Zy ?_
   obtain ⟨j2, hj2⟩ : ∃ j2 : Nat, j + 1 = j2 := ⟨_, rfl⟩
   rw [hj2]
   refine Zs ?_
   rcases Nat.lt_or_ge j2 l.length with hlB | hlB
   ·
    have hltB : (((j2 : Nat) : Int) < (l.length : Int)) = True := by simp; omega
    have hgeB : ((l.length : Int) ≤ ((j2 : Nat) : Int)) = False := by simp; omega
    have hgdB := tksD_gD l (j2) [] hlB
    have hgqB : l.getD (j2) tk0 = l[j2] := by simp [List.getD, List.getElem?_eq_getElem hlB]
    refine Zp 2097167 ?_
    refine Zc (fun hc16 => ?_) fun hc16 => ?_
    ·
     have hk3 : ¬ (l[j2]).kind = 3 := by simpa using hc16
     have hz : nextR l j2 3 = .err j2 3 := by rw [nextR, if_neg (by rw [nx, hgqB]; simp [hk3])]
     refine AWp.dsN false [1, 2] [0] [3] 4 [5] rfl (by kernel_rfl) rfl fun K_ hK_ => ?_
     refine Zy ?_
     refine Exists.intro (fun h' : AH => getO b8 h'.objs = some ⟨8, 1, [[.d (.int .i64 10), .d (.int .i64 0), .d (.int .i64 0), .nils, .nils, .d (.bool (decide ((l[j]).text = [111, 118, 101, 114]))), .d (.int .i64 0), .nils]]⟩) (And.intro (by simp [getO]) ?_)
     refine Zy ?_
     refine FRN.ld rfl rfl (fun h' m1 => (by first | rfl | (simp only [go_sem, m1]; first | done | rfl | exact ⟨by omega, rfl⟩))) ?_
     refine Zy ?_
     refine FRN.nil ?_
     refine ZA [b] [] (pstop_c T b l (j2) _ _ 3 (by decide)) ?_
     rintro _ _ ⟨rfl, rfl⟩
     simp only [go_sem, fb8]
     first | with_reducible refine And.intro (by simp [getO, fb6, fb8, hgdA, hgeA, hltA, hgdB, hgeB, hltB]) ?_ | skip
     refine lvc_ok _ _ _ ?_
     simp only [go_sem, fb6, fb8]
     refine hK_ _ _ ?_
     refine Zm 12 ?_
     refine AWp.ret ?_
     simp only [thenQ, blkQ]
     apply endW_r [b6, b8] [] [b] [] (by (try simp only [go_sem, fb6, fb8]) <;> rfl)
     · refine ⟨(.mk 10 0 0 [] [] (decide ((l[j]).text = [111, 118, 101, 114])) 0 []), j2, _, _, rfl, by first | rfl | (simp only [go_sem, fb6, fb8]; done) | (simp only [go_sem, fb6, fb8]; rfl), by omega, ?_⟩
       rw [te_s hd0 hw, if_pos hou, hj2, hz, Rd.bind_er]
       exact RR.er_ _ _ (gv_ne (by decide))
     · simp [LeA, LeL, LeD, tstA, kidsD, kidsL_eq, Tst.kind, Tst.mat, Tst.part, Tst.names, Tst.keys, Tst.over, Tst.limit, tsA]
    have hz : nextR l j2 3 = .ok (l[j2]) (j2 + 1) := by rw [nextR, if_pos (by rw [nx, hgqB]; simp [hlB]; first | exact hc16 | simpa using hc16), hgqB]
    refine Zk ?_
    refine Zp 14 ?_
    refine Zr (blkQ_n (thenQ_n ?_))
    refine Zp 6 ?_
    refine AWp.ret ?_
    apply endW_r [b6, b8] [] [b] [] (by (try simp only [go_sem, fb6, fb8]) <;> rfl)
    · refine ⟨(.mk 10 0 0 [] [] (decide ((l[j]).text = [111, 118, 101, 114])) (l[j2]).num []), (j2 + 1), 0, 0, rfl, by first | rfl | (simp only [go_sem, fb6, fb8]; done) | (simp only [go_sem, fb6, fb8, hgdA, hgeA, hltA, hgdB, hgeB, hltB]; rfl), by omega, ?_⟩
      rw [te_s hd0 hw, if_pos hou, hj2, hz, Rd.bind_ok, hov]
      exact RR.ok_ _ _
    · simp [LeA, LeL, LeD, tstA, kidsD, kidsL_eq, Tst.kind, Tst.mat, Tst.part, Tst.names, Tst.keys, Tst.over, Tst.limit, tsA]
   have hltB : (((j2 : Nat) : Int) < (l.length : Int)) = False := by simp; omega
   have hgeB : ((l.length : Int) ≤ ((j2 : Nat) : Int)) = True := by simp; omega
   have hgdB : (tksD l).getD (j2) [] = [] := by simp [tksD, List.getD, hlB]
   refine Zp 2097167 ?_
   refine Zc (fun hc16 => ?_) fun hc16 => ?_
   ·
    have hz : nextR l j2 3 = .err j2 3 := by rw [nextR, if_neg (by simp [nx, Nat.not_lt.2 hlB])]
    refine AWp.dsN false [1, 2] [0] [3] 4 [5] rfl (by kernel_rfl) rfl fun K_ hK_ => ?_
    refine Zy ?_
    refine Exists.intro (fun h' : AH => getO b8 h'.objs = some ⟨8, 1, [[.d (.int .i64 10), .d (.int .i64 0), .d (.int .i64 0), .nils, .nils, .d (.bool (decide ((l[j]).text = [111, 118, 101, 114]))), .d (.int .i64 0), .nils]]⟩) (And.intro (by simp [getO]) ?_)
    refine Zy ?_
    refine FRN.ld rfl rfl (fun h' m1 => (by first | rfl | (simp only [go_sem, m1]; first | done | rfl | exact ⟨by omega, rfl⟩))) ?_
    refine Zy ?_
    refine FRN.nil ?_
    refine ZA [b] [] (pstop_c T b l (j2) _ _ 3 (by decide)) ?_
    rintro _ _ ⟨rfl, rfl⟩
    simp only [go_sem, fb8]
    first | with_reducible refine And.intro (by simp [getO, fb6, fb8, hgdA, hgeA, hltA, hgdB, hgeB, hltB, false_imp_iff]) ?_ | skip
    refine lvc_ok _ _ _ ?_
    simp only [go_sem, fb6, fb8]
    refine hK_ _ _ ?_
    refine Zm 12 ?_
    refine AWp.ret ?_
    simp only [thenQ, blkQ]
    apply endW_r [b6, b8] [] [b] [] (by (try simp only [go_sem, fb6, fb8]) <;> rfl)
    · refine ⟨(.mk 10 0 0 [] [] (decide ((l[j]).text = [111, 118, 101, 114])) 0 []), j2, _, _, rfl, by first | rfl | (simp only [go_sem, fb6, fb8]; done) | (simp only [go_sem, fb6, fb8]; rfl), by omega, ?_⟩
      rw [te_s hd0 hw, if_pos hou, hj2, hz, Rd.bind_er]
      exact RR.er_ _ _ (gv_ne (by decide))
    · simp [LeA, LeL, LeD, tstA, kidsD, kidsL_eq, Tst.kind, Tst.mat, Tst.part, Tst.names, Tst.keys, Tst.over, Tst.limit, tsA]
   exact absurd hc16 (by first | (simp; done) | omega | (simp [*]; done))
  have hltA : (((j : Nat) : Int) < (l.length : Int)) = False := by simp; omega
  have hgeA : ((l.length : Int) ≤ ((j : Nat) : Int)) = True := by simp; omega
  have hgdA : (tksD l).getD (j) [] = [] := by simp [tksD, List.getD, hlA]
  refine Zp 17592186044431 ?_
  refine Zc (fun hc15 => ?_) fun hc15 => ?_
  ·
   have hou : ¬ (isT l j 2 overT = true ∨ isT l j 2 underT = true) := by first | (rw [isT_out hlA, isT_out hlA]; simp) | (rw [isT_in hlA, isT_in hlA]; simp only [Bool.and_eq_true, decide_eq_true_eq]; rintro (⟨q1, q2⟩ | ⟨q1, q2⟩) <;> simp [q1, q2, overT, underT] at hc15)
   refine AWp.dsN false [1, 2] [0] [3] 4 [5] rfl (by kernel_rfl) rfl fun K_ hK_ => ?_
   refine Zy ?_
   refine Exists.intro (fun h' : AH => getO b8 h'.objs = some ⟨8, 1, [[.d (.int .i64 10), .d (.int .i64 0), .d (.int .i64 0), .nils, .nils, .d (.bool false), .d (.int .i64 0), .nils]]⟩) (And.intro (by simp [getO]) ?_)
   refine Zy ?_
   refine FRN.ld rfl rfl (fun h' m1 => (by first | rfl | (simp only [go_sem, m1]; first | done | rfl | exact ⟨by omega, rfl⟩))) ?_
   refine Zy ?_
   refine FRN.nil ?_
   refine ZA [b] [] (pstop_c T b l (j) _ _ 3 (by decide)) ?_
   rintro _ _ ⟨rfl, rfl⟩
   simp only [go_sem, fb8]
   first | with_reducible refine And.intro (by simp [getO, fb6, fb8, hgdA, hgeA, hltA, false_imp_iff]) ?_ | skip
   refine lvc_ok _ _ _ ?_
   simp only [go_sem, fb6, fb8]
   refine hK_ _ _ ?_
   refine Zm 12 ?_
   refine AWp.ret ?_
   simp only [thenQ, blkQ]
   apply endW_r [b6, b8] [] [b] [] (by (try simp only [go_sem, fb6, fb8]) <;> rfl)
   · refine ⟨(.mk 10 0 0 [] [] false 0 []), j, _, _, rfl, by first | rfl | (simp only [go_sem, fb6, fb8]; done) | (simp only [go_sem, fb6, fb8]; rfl), by omega, ?_⟩
     rw [te_s hd0 hw, if_neg hou]
     exact RR.er_ _ _ (gv_ne (by decide))
   · simp [LeA, LeL, LeD, tstA, kidsD, kidsL_eq, Tst.kind, Tst.mat, Tst.part, Tst.names, Tst.keys, Tst.over, Tst.limit, tsA]
  exact absurd hc15 (by first | (simp; done) | omega | (simp [*]; done))
 have hk0 : ¬ kd = 3 ∧ ¬ (kd = 4 ∨ kd = 5) ∧ ¬ (kd = 6 ∨ kd = 7 ∨ kd = 8) ∧ ¬ kd = 9 ∧ ¬ kd = 10 := ⟨by omega, by omega, by omega, by omega, by omega⟩
 refine AWp.skip (blkQ_n (thenQ_n ?_))
 refine Zp 12 ?_
 refine AWp.ret ?_
 apply endW_r [b6, b8] [] [b] [] (by (try simp only [go_sem, fb6, fb8]) <;> rfl)
 · refine ⟨(.mk kd 0 0 [] [] false 0 []), j, 0, 0, rfl, by first | rfl | (simp only [go_sem, fb6, fb8]; done) | (simp only [go_sem, fb6, fb8]; rfl), by omega, ?_⟩
   rw [te_n hd0 hw hk0]
   exact RR.ok_ _ _
 · simp [LeA, LeL, LeD, tstA, kidsD, kidsL_eq, Tst.kind, Tst.mat, Tst.part, Tst.names, Tst.keys, Tst.over, Tst.limit, tsA]
end
section
theorem ptest_n (T : Tbl) : ∀ (n m : Nat), m ≤ n → ∀ (b : Nat) (l : List Tk) (i d : Nat) (F : List (Nat × Ob)) (L : List Nat), l.length ≤ 400 → i ≤ l.length → d ≤ 7 → testR m l i d ≠ .oof → AC Tryz.prog T 241 [.ptr b 3 0 0, .d (.int .i64 (i : Nat)), .d (.int .i64 (d : Nat))] ⟨pob b l 0 0 :: F, L⟩ (RE 500 b F L l tsA (testR m l i d)) := by
 intro n
 induction n with
 | zero =>
  intro m hm b l i d F L hl hi hd hno
  obtain rfl : m = 0 := by omega
  exact absurd (by rw [testR]) hno
 | succ n ih =>
  intro m hm b l i d F L hl hi hd hno
  cases m with
  | zero => exact absurd (by rw [testR]) hno
  | succ m => exact ptest_s T m (fun m2 h2 => ih m2 (by omega)) b l i d F L hl hi hd hno
theorem ptest_c (T : Tbl) (n b : Nat) (l : List Tk) (i d : Nat) (F : List (Nat × Ob)) (L : List Nat) (hl : l.length ≤ 400) (hi : i ≤ l.length) (hd : d ≤ 7) (hno : testR n l i d ≠ .oof) : AC Tryz.prog T 241 [.ptr b 3 0 0, .d (.int .i64 (i : Nat)), .d (.int .i64 (d : Nat))] ⟨pob b l 0 0 :: F, L⟩ (RE 500 b F L l tsA (testR n l i d)) :=
 ptest_n T n n (Nat.le_refl _) b l i d F L hl hi hd hno
def cA : Cmd → Nat → AV := fun c n => .tup [.agg (cmdA c), .d (.int .i64 n)]
def csA : List Cmd → Nat → AV := fun c n => .tup [.d (.slc 12 (c.map cmdD)), .d (.int .i64 n)]
theorem sIn_c (T : Tbl) (n lo hi : Int) : PC Tryz.prog T 98 [.d (.int .i64 n), .d (.int .i64 lo), .d (.int .i64 hi)] (.d (.bool (decide (lo ≤ n) && decide (n ≤ hi)))) := by
 refine ⟨Tryz.call98, PCall.enterS Tryz.func98 rfl Tryz.ntmps98 rfl fun hb => ?_⟩
 simp only [go_sem, Tryz.results98]
 refine Zp 7 ?_
 refine Zp 8 ?_
 refine AWp.ret ?_
 simp only [go_sem]
 try simp [LeA, LeD]
attribute [local go_sem] pob tcast nA tA txA tsA tstA cA csA cmdA Int.toNat_natCast Bool.false_eq_true decide_false in
theorem pblock_s (T : Tbl) (nn : Nat) (hnn : nn ≤ 100000) (ihc : ∀ m, m ≤ nn → ∀ (b : Nat) (l : List Tk) (i d : Nat) (F : List (Nat × Ob)) (L : List Nat), l.length ≤ 400 → i ≤ l.length → d ≤ 7 → cmdR m l i d ≠ .oof → AC Tryz.prog T 111 [.ptr b 3 0 0, .d (.int .i64 (i : Nat)), .d (.int .i64 (d : Nat))] ⟨pob b l 0 0 :: F, L⟩ (RE (500 + m) b F L l cA (cmdR m l i d))) (b : Nat) (l : List Tk) (i d : Nat) (F : List (Nat × Ob)) (L : List Nat) (hl : l.length ≤ 400) (hi : i ≤ l.length) (hd7 : d ≤ 7) (hno : blockR (nn + 1) l i d ≠ .oof) : AC Tryz.prog T 242 [.ptr b 3 0 0, .d (.int .i64 (i : Nat)), .d (.int .i64 (d : Nat))] (⟨pob b l 0 0 :: F, L⟩) (RE (500 + (nn + 1)) b F L l csA (blockR (nn + 1) l i d)) := by
 refine ⟨Tryz.call242, ACalls.enterS Tryz.func242 rfl Tryz.ntmps242 rfl fun hb => ?_⟩
 simp only [go_sem, Tryz.results242]
 refine Zp 7 ?_
 refine Zp 15 ?_
 refine Zx (Zy ?_)
 refine DW.acp [b] [] rfl rfl rfl rfl (by (try simp only [go_sem]) <;> rfl) rfl (pmark_c T b l i _ _ [123] (by omega)) ?_
 rintro _ _ ⟨am, nm, fm, em, rfl, rfl, ubm, rm⟩
 refine Zy ?_
 refine Zs (AWp.block (Zm 15 ?_))
 refine Zy ?_
 refine AWp.ownNilS 8 12 rfl rfl (by decide) fun w0 fw0 => ?_
 try simp only [freshT] at fw0
 refine Zy ?_
 refine Zl 5 10 (fun n lc hc => ∃ (v m w : Nat) (f e : Int) (acc : List Cmd), n = (if e = 0 then m + 1 else 0) ∧ EqS lc [(1, .d (.int .i64 (v : Nat))), (8, .own w 12 (acc.map cmdD))] ∧ EqS hc (⟨pob b l f e :: F, w :: L⟩) ∧ (v ≤ 500 + nn) ∧ (m ≤ nn) ∧ (acc.length ≤ 402) ∧ (freshT w L) ∧ (e = 0 → f = 0 ∧ v ≤ l.length ∧ acc.length ≤ v ∧ blockR (nn + 1) l i d = cmdsR m l v d acc) ∧ (¬ e = 0 → ∀ y q, RR l (blockR (nn + 1) l i d) y q f e)) ?_ ?_
 · refine ⟨_, nm, nn, w0, fm, em, [], rfl, ZE, ZE, ?_, ?_, ?_, ?_, ?_, ?_⟩
   all_goals (first | omega | (simp; done) | exact fw0 | (intro h; obtain ⟨q1, q2⟩ := rm.ok0 (mustR_oof _ _ _) h; obtain ⟨q3, q4⟩ := mustR_ok q1; have q5 := isT_lt q3; exact ⟨q2, by omega, by simp, by rw [bl_e, q1, Rd.bind_ok]⟩) | (intro h y q; rw [bl_e]; exact rm.thru (mustR_oof _ _ _) h _ _))
 rintro _ _ _ ⟨v, m, w, f, e, acc, rfl, ⟨rfl⟩, ⟨rfl⟩, g1, g2, g3, g4, g5, g6⟩
 refine Zy ?_
 refine Zs ?_
 by_cases he : e = 0
 ·
  subst he
  obtain ⟨rfl, o2, o3, o4⟩ := g5 rfl
  obtain ⟨m, rfl⟩ : ∃ m2, m = m2 + 1 := by cases m with | zero => exact absurd (by rw [o4, cmdsR]) hno | succ m => exact ⟨m, rfl⟩
  refine AWp.rsG 8 fun K_ hK_ => ?_
  simp only [List.take_succ_cons, List.take_zero, List.drop_succ_cons, List.drop_zero]
  simp only [go_sem, if_false, eq_self, if_true]
  refine LV.gcall rfl rfl (by first | rfl | (simp only [go_sem, fw0, g4, if_false, eq_self, if_true]; done) | (simp only [go_sem, fw0, g4, if_false, eq_self, if_true]; rfl)) rfl rfl (by rfl) (LeH.refl _) (by first | rfl | (simp only [go_sem, fw0, g4, if_false, eq_self, if_true]; done) | (simp only [go_sem, fw0, g4, if_false, eq_self, if_true]; rfl)) (pisMark_c T b l (v) _ _ _ _ [125]) ?_
  rintro _ _ ⟨rfl, rfl⟩
  refine LV.leH (LeH.refl _) (LV.lvc ?_)
  simp only [go_sem, if_false, eq_self, if_true]
  refine hK_ _ _ ?_
  refine Zm 16399 ?_
  refine Zc (fun hc0 => ?_) fun hc0 => ?_
  ·
   have him : isT l v 5 [125] = false := by simpa using hc0
   have hno2 : cmdR m l v d ≠ .oof := by have h9 := hno; rw [o4, cs_f him] at h9; exact Rd.bind_no h9
   refine Zk ?_
   refine AWp.block (Zx ?_)
   simp only [go_sem, if_false, eq_self, if_true]
   refine DW.acp [b] [] rfl rfl rfl rfl (by (try simp only [go_sem, eq_self, if_true]) <;> rfl) rfl (ihc m (by omega) b l v d _ _ hl o2 hd7 hno2) ?_
   rintro _ _ ⟨ax, nx, fx, ex, rfl, rfl, ubx, rx⟩
   simp only [go_sem, if_false, eq_self, if_true]
   intro b9
   first | intro fb9 | have fb9 := True.intro
   try simp only [freshL] at fb9
   refine Zm 61 ?_
   refine Zx ?_
   simp only [go_sem, if_false, eq_self, if_true, fb9]
   refine DW.app rfl rfl rfl rfl (show slI Tryz.prog 22 = some (65, 12, 192) by simp only [go_sem]) rfl rfl (by simp only [go_sem, eq_self]) (by first | exact .inl rfl | exact .inr rfl) (by (try simp only [go_sem]); (try simp only [List.length_map, List.length_append, List.length_cons, List.length_nil]); first | done | omega) (by (try simp only [go_sem]); (try simp only [List.length_map, List.length_append, List.length_cons, List.length_nil]); first | done | omega) fun t1 ft1 => ?_
   try simp only [freshT] at ft1
   simp only [go_sem, if_false, eq_self, if_true]
   refine Zm 23 ?_
   refine Zr (blkQ_n (thenQ_n ?_))
   refine Ze 5 10 [b9] [] [b] [t1] (.e ⟨_, ?_, nx, m, t1, fx, ex, (acc ++ [ax]), rfl, ?_, ZE, ?_, ?_, ?_, ?_, ?_, ?_⟩)
   · first | omega | (simp; omega) | (split <;> omega)
   · (try simp only [go_sem, if_false, eq_self, if_true]) <;> first | exact ⟨rfl⟩ | (constructor; simp [cmdD, tstD]; done)
   · omega
   · omega
   · simp; omega
   · first | exact ft1 | exact ft1.2
   · intro h; obtain ⟨q1, q2⟩ := rx.ok0 hno2 h; have lx := (cmd_le m).1 _ _ _ _ _ q1; exact ⟨q2, by omega, by simp; omega, by rw [o4, cs_f him, q1, Rd.bind_ok]⟩
   · intro h y q; rw [o4, cs_f him]; exact rx.thru hno2 h _ _
  have him : isT l v 5 [125] = true := by simpa using hc0
  refine AWp.exit (thenQ_e (thenQ_e (blkQ_e (thenQ_n ?_))))
  refine Zp 24 ?_
  refine AWp.ret ?_
  apply endW_r [] [w] [b] [] (by (try simp only [go_sem, if_false, eq_self, if_true]) <;> rfl)
  · refine ⟨acc, (v + 1), 0, 0, rfl, by first | rfl | (simp only [go_sem, eq_self, if_true]; done) | (simp only [go_sem, fw0, g4, if_false, eq_self, if_true]; rfl), by omega, ?_⟩
    rw [o4, cs_t him]
    exact RR.ok_ _ _
  · simp [LeA, LeL, LeD, csA]
 refine Zx ?_
 simp only [go_sem, he]
 refine DW.skipc rfl rfl ?_
 refine Zy ?_
 refine Zm 16399 ?_
 refine Zc (fun hc0 => ?_) fun hc0 => ?_
 ·
  exact absurd hc0 (by first | (simp; done) | omega | (simp [*]; done))
 refine AWp.exit (thenQ_e (thenQ_e (blkQ_e (thenQ_n ?_))))
 refine Zp 24 ?_
 refine AWp.ret ?_
 apply endW_r [] [w] [b] [] (by (try simp only [go_sem]) <;> rfl)
 · refine ⟨acc, (v + 1), f, e, rfl, by first | rfl | (simp only [go_sem]; done) | (simp only [go_sem, fw0, g4, he]; rfl), by omega, ?_⟩
   exact g6 he _ _
 · simp [LeA, LeL, LeD, csA]
attribute [local go_sem] pob tcast nA tA txA tsA tstA cA csA cmdA Int.toNat_natCast Bool.false_eq_true decide_false in
theorem pbranch_s (T : Tbl) (nn : Nat) (hnn : nn ≤ 100000) (ihb : ∀ m, m ≤ nn → ∀ (b : Nat) (l : List Tk) (i d : Nat) (F : List (Nat × Ob)) (L : List Nat), l.length ≤ 400 → i ≤ l.length → d ≤ 7 → blockR m l i d ≠ .oof → AC Tryz.prog T 242 [.ptr b 3 0 0, .d (.int .i64 (i : Nat)), .d (.int .i64 (d : Nat))] ⟨pob b l 0 0 :: F, L⟩ (RE (500 + m) b F L l csA (blockR m l i d))) (ihr : ∀ m, m ≤ nn → ∀ (b : Nat) (l : List Tk) (i d : Nat) (F : List (Nat × Ob)) (L : List Nat), l.length ≤ 400 → i ≤ l.length → d ≤ 6 → branchR m l i d ≠ .oof → AC Tryz.prog T 191 [.ptr b 3 0 0, .d (.int .i64 (i : Nat)), .d (.int .i64 (d : Nat))] ⟨pob b l 0 0 :: F, L⟩ (RE (500 + m) b F L l cA (branchR m l i d))) (b : Nat) (l : List Tk) (i d : Nat) (F : List (Nat × Ob)) (L : List Nat) (hl : l.length ≤ 400) (hi : i ≤ l.length) (hd7 : d ≤ 6) (hno : branchR (nn + 1) l i d ≠ .oof) : AC Tryz.prog T 191 [.ptr b 3 0 0, .d (.int .i64 (i : Nat)), .d (.int .i64 (d : Nat))] (⟨pob b l 0 0 :: F, L⟩) (RE (500 + (nn + 1)) b F L l cA (branchR (nn + 1) l i d)) := by
 refine ⟨Tryz.call191, ACalls.enterS Tryz.func191 rfl Tryz.ntmps191 rfl fun hb => ?_⟩
 simp only [go_sem, Tryz.results191]
 refine Zx (Zy ?_)
 intro b6
 first | intro fb6 | have fb6 := True.intro
 try simp only [freshL] at fb6
 refine Zx (Zy ?_)
 intro b8
 first | intro fb8 | have fb8 := True.intro
 try simp only [freshL] at fb8
 refine Zx (Zy ?_)
 have hno2 : testR nn l i 1 ≠ .oof := by have h9 := hno; rw [br_e] at h9; exact Rd.bind_no h9
 refine ZA [b] [] (ptest_c T nn b l i 1 _ _ hl hi (by decide) hno2) ?_
 rintro _ _ ⟨aq, nq, fq, eq, rfl, rfl, ubq, rq⟩
 simp only [go_sem, fb8]
 refine Zm 47 ?_
 refine Zs (Zp 543 ?_)
 refine Zc (fun hc0 => ?_) fun hc0 => ?_
 ·
  obtain ⟨p1, p2⟩ := rq.ok0 hno2 hc0
  subst hc0 p2
  have lq := (test_le nn).1 _ _ _ _ _ p1
  have hno3 : blockR nn l nq (d + 1) ≠ .oof := by have h9 := hno; rw [br_e, p1, Rd.bind_ok] at h9; exact Rd.bind_no h9
  refine Zq fun K_ k_ => ?_
  refine Zy ?_
  (repeat (with_reducible refine And.intro ZS ?_))
  refine DW.acp [b] [] rfl rfl rfl rfl (by (try simp only [go_sem, fb6, fb8]) <;> rfl) rfl (ihb nn (Nat.le_refl _) b l nq (d + 1) _ _ hl (by omega) (by omega) hno3) ?_
  rintro _ _ ⟨ax, nx, fx, ex, rfl, rfl, ubx, rx⟩
  simp only [go_sem, fb8]
  refine k_ _ _ (thenQ_n ?_)
  refine Zm 31 ?_
  refine Zs ?_
  by_cases he : ex = 0
  ·
   obtain ⟨p3, p4⟩ := rx.ok0 hno3 he
   subst he p4
   have lx := (cmd_le nn).2.1 _ _ _ _ _ p3
   refine AWp.rsG 8 fun K_ hK_ => ?_
   simp only [List.take_succ_cons, List.take_zero, List.drop_succ_cons, List.drop_zero]
   simp only [go_sem, *]
   refine LV.gcall rfl rfl (by first | rfl | (simp only [go_sem, fb6, fb8, if_false, eq_self, if_true]; done) | (simp only [go_sem, fb6, fb8, if_false, eq_self, if_true]; rfl)) rfl rfl (by rfl) (LeH.refl _) (by first | rfl | (simp only [go_sem, fb6, fb8, if_false, eq_self, if_true]; done) | (simp only [go_sem, fb6, fb8, if_false, eq_self, if_true]; rfl)) (pisWord_c T b l (nx) _ _ _ _ _) ?_
   rintro _ _ ⟨rfl, rfl⟩
   refine LV.leH (LeH.refl _) (LV.lvc ?_)
   simp only [go_sem, *]
   refine hK_ _ _ ?_
   refine Zm 16415 ?_
   refine Zc (fun hc1 => ?_) fun hc1 => ?_
   ·
    have him : isT l nx 1 [101, 108, 115, 105, 102] = true := by simpa using hc1
    have jlt := isT_lt him
    have hno4 : branchR nn l (nx + 1) d ≠ .oof := by have h9 := hno; rw [br_e, p1, Rd.bind_ok, p3, Rd.bind_ok, if_pos (show isT l nx 1 elsifT = true from him)] at h9; exact Rd.bind_no h9
    refine Zx ?_
    simp only [go_sem, if_false, eq_self, if_true]
    (repeat (with_reducible refine And.intro ZS ?_))
    refine DW.acp [b] [] rfl rfl rfl rfl (by (try simp only [go_sem, fb6, fb8, if_false, eq_self, if_true]) <;> rfl) rfl (ihr nn (Nat.le_refl _) b l (nx + 1) d _ _ hl (by omega) hd7 hno4) ?_
    rintro _ _ ⟨ay, ny, fy, ey, rfl, rfl, uby, ry⟩
    simp only [go_sem, *]
    intro b9
    first | intro fb9 | have fb9 := True.intro
    try simp only [freshL] at fb9
    refine Zn 120 ?_
    refine AWp.ownNilH b8 0 11 12 (by (try simp only [go_sem, fb8, if_false, eq_self, if_true, fb9]) <;> rfl) rfl rfl (by decide) fun t9 ft9 => ?_
    try simp only [freshT] at ft9
    simp only [go_sem, *]
    refine Zx ?_
    simp only [go_sem, *]
    refine ZW fun t1 ft1 => ?_
    try simp only [freshT] at ft1
    simp only [go_sem, *]
    refine Zm 11 ?_
    refine Zp 3 ?_
    refine AWp.ret ?_
    simp only [thenQ]
    apply endW_r [b6, b8, b9] [t1] [b] [] (by (try simp only [go_sem, fb6, fb8, if_false, eq_self, if_true, fb9]) <;> rfl)
    · refine ⟨(.mk 2 [] aq ax [ay]), ny, fy, ey, rfl, by first | rfl | (simp only [go_sem, fb6, fb8, if_false, eq_self, if_true, fb9]; done) | (simp only [go_sem, fb6, fb8, if_false, eq_self, if_true, fb9, ft9, ft1]; rfl), by omega, ?_⟩
      rw [br_e, p1, Rd.bind_ok, p3, Rd.bind_ok, if_pos (show isT l nx 1 elsifT = true from him)]
      by_cases h9 : ey = 0
      · refine ry.next hno4 h9 ?_
        obtain ⟨_, rfl⟩ := ry.ok0 hno4 h9
        subst h9
        exact RR.ok_ _ _
      · exact ry.thru hno4 h9 _ _
    · simp [LeA, LeL, LeD, cmdA, tstA, tstD, Tst.kind, Tst.mat, Tst.part, Tst.names, Tst.keys, Tst.over, Tst.limit, Cmd.kind, Cmd.texts, Cmd.test, thnD, elsD, cmdsL, cmdsL_eq, cA]
   have hn1 : isT l nx 1 [101, 108, 115, 105, 102] = false := by simpa using hc1
   refine Zk ?_
   refine Zs (AWp.rsG 8 fun K_ hK_ => ?_)
   simp only [List.take_succ_cons, List.take_zero, List.drop_succ_cons, List.drop_zero]
   simp only [go_sem, *]
   refine LV.gcall rfl rfl (by first | rfl | (simp only [go_sem, fb6, fb8, if_false, eq_self, if_true]; done) | (simp only [go_sem, fb6, fb8, if_false, eq_self, if_true]; rfl)) rfl rfl (by rfl) (LeH.refl _) (by first | rfl | (simp only [go_sem, fb6, fb8, if_false, eq_self, if_true]; done) | (simp only [go_sem, fb6, fb8, if_false, eq_self, if_true]; rfl)) (pisWord_c T b l (nx) _ _ _ _ _) ?_
   rintro _ _ ⟨rfl, rfl⟩
   refine LV.leH (LeH.refl _) (LV.lvc ?_)
   simp only [go_sem, *]
   refine hK_ _ _ ?_
   refine Zm 32799 ?_
   refine Zc (fun hc2 => ?_) fun hc2 => ?_
   ·
    have him : isT l nx 1 [101, 108, 115, 101] = true := by simpa using hc2
    have jlt := isT_lt him
    have hno5 : blockR nn l (nx + 1) (d + 1) ≠ .oof := by have h9 := hno; rw [br_e, p1, Rd.bind_ok, p3, Rd.bind_ok, if_neg (show ¬ isT l nx 1 elsifT = true from fun h8 => by rw [show isT l nx 1 elsifT = false from hn1] at h8; cases h8), if_pos (show isT l nx 1 elseT = true from him)] at h9; exact Rd.bind_no h9
    refine Zq fun K_ k_ => ?_
    simp only [go_sem, if_false, eq_self, if_true]
    (repeat (with_reducible refine And.intro ZS ?_))
    refine DW.acp [b] [] rfl rfl rfl rfl (by (try simp only [go_sem, fb6, fb8, if_false, eq_self, if_true]) <;> rfl) rfl (ihb nn (Nat.le_refl _) b l (nx + 1) (d + 1) _ _ hl (by omega) (by omega) hno5) ?_
    rintro _ _ ⟨az, nz, fz, ez, rfl, rfl, ubz, rz⟩
    simp only [go_sem, *]
    refine k_ _ _ (thenQ_n ?_)
    refine Zm 26 ?_
    refine Zp 6 ?_
    refine AWp.ret ?_
    apply endW_r [b6, b8] [] [b] [] (by (try simp only [go_sem, fb6, fb8, if_false, eq_self, if_true]) <;> rfl)
    · refine ⟨(.mk 2 [] aq ax az), nz, fz, ez, rfl, by first | rfl | (simp only [go_sem, fb6, fb8, if_false, eq_self, if_true]; done) | (simp only [go_sem, fb6, fb8, if_false, eq_self, if_true]; rfl), by omega, ?_⟩
      rw [br_e, p1, Rd.bind_ok, p3, Rd.bind_ok, if_neg (show ¬ isT l nx 1 elsifT = true from fun h8 => by rw [show isT l nx 1 elsifT = false from hn1] at h8; cases h8), if_pos (show isT l nx 1 elseT = true from him)]
      by_cases h9 : ez = 0
      · refine rz.next hno5 h9 ?_
        obtain ⟨_, rfl⟩ := rz.ok0 hno5 h9
        subst h9
        exact RR.ok_ _ _
      · exact rz.thru hno5 h9 _ _
    · simp [LeA, LeL, LeD, cmdA, tstA, Tst.kind, Tst.mat, Tst.part, Tst.names, Tst.keys, Tst.over, Tst.limit, Cmd.kind, Cmd.texts, Cmd.test, thnD, elsD, cmdsL_eq, cA]
   have hn2 : isT l nx 1 [101, 108, 115, 101] = false := by simpa using hc2
   refine Zk ?_
   refine Zp 24 ?_
   refine AWp.ret ?_
   apply endW_r [b6, b8] [] [b] [] (by (try simp only [go_sem, fb6, fb8, if_false, eq_self, if_true]) <;> rfl)
   · refine ⟨(.mk 2 [] aq ax []), nx, 0, 0, rfl, by first | rfl | (simp only [go_sem, fb6, fb8, if_false, eq_self, if_true]; done) | (simp only [go_sem, fb6, fb8, if_false, eq_self, if_true]; rfl), by omega, ?_⟩
     rw [br_e, p1, Rd.bind_ok, p3, Rd.bind_ok, if_neg (show ¬ isT l nx 1 elsifT = true from fun h8 => by rw [show isT l nx 1 elsifT = false from hn1] at h8; cases h8), if_neg (show ¬ isT l nx 1 elseT = true from fun h8 => by rw [show isT l nx 1 elseT = false from hn2] at h8; cases h8)]
     exact RR.ok_ _ _
   · simp [LeA, LeL, LeD, cmdA, tstA, Tst.kind, Tst.mat, Tst.part, Tst.names, Tst.keys, Tst.over, Tst.limit, Cmd.kind, Cmd.texts, Cmd.test, thnD, elsD, cmdsL, cmdsL_eq, cA]
  refine Zx ?_
  simp only [go_sem, *]
  refine DW.skipc rfl rfl ?_
  refine Zy ?_
  refine Zm 16415 ?_
  refine Zc (fun hc1 => ?_) fun hc1 => ?_
  ·
   exact absurd hc1 (by first | (simp; done) | omega | (simp [*]; done))
  refine Zk ?_
  refine Zs (Zx ?_)
  simp only [go_sem, *]
  refine DW.skipc rfl rfl ?_
  refine Zy ?_
  refine Zm 32799 ?_
  refine Zc (fun hc2 => ?_) fun hc2 => ?_
  ·
   exact absurd hc2 (by first | (simp; done) | omega | (simp [*]; done))
  refine Zk ?_
  refine Zp 24 ?_
  refine AWp.ret ?_
  apply endW_r [b6, b8] [] [b] [] (by (try simp only [go_sem, fb6, fb8]) <;> rfl)
  · refine ⟨(.mk 2 [] aq ax []), nx, fx, ex, rfl, by first | rfl | (simp only [go_sem, fb6, fb8]; done) | (simp only [go_sem, fb6, fb8, he]; rfl), by omega, ?_⟩
    rw [br_e, p1, Rd.bind_ok]
    exact rx.thru hno3 he _ _
  · simp [LeA, LeL, LeD, cmdA, tstA, Tst.kind, Tst.mat, Tst.part, Tst.names, Tst.keys, Tst.over, Tst.limit, Cmd.kind, Cmd.texts, Cmd.test, thnD, elsD, cmdsL, cmdsL_eq, cA]
 refine Zk ?_
 refine Zs (Zx ?_)
 simp only [go_sem, *]
 refine DW.skipc rfl rfl ?_
 refine Zy ?_
 refine Zm 32799 ?_
 refine Zc (fun hc1 => ?_) fun hc1 => ?_
 ·
  exact absurd hc1 (by simp)
 refine Zk ?_
 refine Zs (Zx ?_)
 simp only [go_sem, *]
 refine DW.skipc rfl rfl ?_
 refine Zy ?_
 refine Zm 32799 ?_
 refine Zc (fun hc2 => ?_) fun hc2 => ?_
 ·
  exact absurd hc2 (by simp)
 refine Zk ?_
 refine Zp 24 ?_
 refine AWp.ret ?_
 apply endW_r [b6, b8] [] [b] [] (by (try simp only [go_sem, fb6, fb8]) <;> rfl)
 · refine ⟨(.mk 2 [] aq [] []), nq, fq, eq, rfl, by first | rfl | (simp only [go_sem, fb6, fb8]; done) | (simp only [go_sem, fb6, fb8, hc0]; rfl), by omega, ?_⟩
   rw [br_e]
   exact rq.thru hno2 hc0 _ _
 · simp [LeA, LeL, LeD, cmdA, tstA, Tst.kind, Tst.mat, Tst.part, Tst.names, Tst.keys, Tst.over, Tst.limit, Cmd.kind, Cmd.texts, Cmd.test, thnD, elsD, cmdsL, cA]
end
section
attribute [local go_sem] pob tcast nA tA txA tsA tstA cA csA cmdA Int.toNat_natCast in
theorem pcommand_s (T : Tbl) (nn : Nat) (hnn : nn ≤ 100000) (ihr : ∀ m, m ≤ nn → ∀ (b : Nat) (l : List Tk) (i d : Nat) (F : List (Nat × Ob)) (L : List Nat), l.length ≤ 400 → i ≤ l.length → d ≤ 6 → branchR m l i d ≠ .oof → AC Tryz.prog T 191 [.ptr b 3 0 0, .d (.int .i64 (i : Nat)), .d (.int .i64 (d : Nat))] ⟨pob b l 0 0 :: F, L⟩ (RE (500 + m) b F L l cA (branchR m l i d))) (b : Nat) (l : List Tk) (i d : Nat) (F : List (Nat × Ob)) (L : List Nat) (hl : l.length ≤ 400) (hi : i ≤ l.length) (hd7 : d ≤ 7) (hno : cmdR (nn + 1) l i d ≠ .oof) : AC Tryz.prog T 111 [.ptr b 3 0 0, .d (.int .i64 (i : Nat)), .d (.int .i64 (d : Nat))] (⟨pob b l 0 0 :: F, L⟩) (RE (500 + (nn + 1)) b F L l cA (cmdR (nn + 1) l i d)) := by
 refine ⟨Tryz.call111, ACalls.enterS Tryz.func111 rfl Tryz.ntmps111 rfl fun hb => ?_⟩
 simp only [go_sem, Tryz.results111]
 refine Zx (Zy ?_)
 intro b6
 first | intro fb6 | have fb6 := True.intro
 try simp only [freshL] at fb6
 refine Zs (Zp 32783 ?_)
 refine Zc (fun hc0 => ?_) fun hc0 => ?_
 ·
  have hd0 : 6 < d ∧ i < l.length := by omega
  refine Zx (Zy ?_)
  refine ZA [b] [] (pstop_c T b l (i) _ _ 1 (by decide)) ?_
  rintro _ _ ⟨rfl, rfl⟩
  simp only [go_sem, fb6]
  refine Zm 24 ?_
  refine AWp.ret ?_
  simp only [thenQ]
  apply endW_r [b6] [] [b] [] (by (try simp only [go_sem, fb6]) <;> rfl)
  · refine ⟨(.mk 0 [] tst0 [] []), i, _, _, rfl, by first | rfl | (simp only [go_sem, fb6]; done) | (simp only [go_sem, fb6]; rfl), by omega, ?_⟩
    rw [cd_1 hd0]
    exact RR.er_ _ _ (gv_ne (by decide))
  · simp [LeA, LeL, LeD, cmdA, tstA, kidsD, kidsL_eq, tst0, Tst.kind, Tst.mat, Tst.part, Tst.names, Tst.keys, Tst.over, Tst.limit, Cmd.kind, Cmd.texts, Cmd.test, thnD, elsD, cmdsL, cA]
 have hd0 : ¬ (6 < d ∧ i < l.length) := by omega
 refine Zk ?_
 refine Zx (Zy ?_)
 intro b8
 first | intro fb8 | have fb8 := True.intro
 try simp only [freshL] at fb8
 refine Zs (Zp 63 ?_)
 refine AWp.block (Zy ?_)
 refine Zl 31 32 (fun n lc hc => ∃ (q : Nat) (kd : Int), n = 11 - q ∧ EqS lc [(9, .d (.int .i64 (q : Nat)))] ∧ EqS hc (⟨(b8, ⟨12, 1, [[.d (.int .i64 kd), .nils, .d (.int .i64 0), .d (.int .i64 0), .d (.int .i64 0), .nils, .nils, .d (.bool false), .d (.int .i64 0), .nils, .nils, .nils]]⟩) :: (b6, ⟨12, 1, [[.d (.int .i64 0), .nils, .d (.int .i64 0), .d (.int .i64 0), .d (.int .i64 0), .nils, .nils, .d (.bool false), .d (.int .i64 0), .nils, .nils, .nils]]⟩) :: pob b l 0 0 :: F, L⟩) ∧ (1 ≤ q) ∧ (q ≤ 11) ∧ (kdS scmT l i q = kd)) ?_ ?_
 · refine ⟨_, 1, 0, rfl, ZE, ZE, ?_, ?_, ?_⟩
   all_goals (first | omega | exact kdS_1 _ _ _)
 rintro _ _ _ ⟨q, kd, rfl, ⟨rfl⟩, ⟨rfl⟩, h1, h2, h3⟩
 refine Zy ?_
 refine Zs (Zp 191 ?_)
 refine Zc (fun hc1 => ?_) fun hc1 => ?_
 ·
  refine Zk ?_
  refine Zs (AWp.block (Zx (Zy ?_)))
  refine DW.pcr rfl rfl rfl rfl (pcommandWord_c T _ (by omega) (by omega)) rfl rfl ?_
  refine Zy ?_
  refine ZA [b] [] (pisWord_c T b l (i) _ _ _ _ _) ?_
  rintro _ _ ⟨rfl, rfl⟩
  refine Zy ?_
  refine Zm 2111 ?_
  refine Zc (fun hc2 => ?_) fun hc2 => ?_
  ·
   refine Zr (blkQ_n (thenQ_n ?_))
   refine Zr (thenQ_n ?_)
   refine Ze 31 32 [] [] [b8, b6, b] [] (.e ⟨_, ZM, (q + 1), (q : Int), rfl, ZE, ZE, ?_, ?_, ?_⟩)
   · omega
   · omega
   · exact (kdS_t cmT_nd (by omega) (show q < 11 by omega) hc2)
  refine AWp.skip (blkQ_n (thenQ_n ?_))
  refine Zr (thenQ_n ?_)
  refine Ze 31 32 [] [] [b8, b6, b] [] (.e ⟨_, ZM, (q + 1), kd, rfl, ZE, ZE, ?_, ?_, ?_⟩)
  · omega
  · omega
  · exact (kdS_f cmT_nd (show q < 11 by omega) (by simpa using hc2)).trans h3
 obtain rfl : q = 11 := by omega
 refine AWp.exit (thenQ_e (thenQ_e (blkQ_e (thenQ_n ?_))))
 refine Zs (Zp 543 ?_)
 refine Zc (fun hc3 => ?_) fun hc3 => ?_
 ·
  have hw : wordR l i scmT = .err i 3 := kdS_er (h3.trans hc3)
  refine AWp.dsN false [1, 2] [0] [3] 4 [5] rfl (by kernel_rfl) rfl fun K_ hK_ => ?_
  refine Zy ?_
  refine Exists.intro (fun h' : AH => getO b8 h'.objs = some ⟨12, 1, [[.d (.int .i64 kd), .nils, .d (.int .i64 0), .d (.int .i64 0), .d (.int .i64 0), .nils, .nils, .d (.bool false), .d (.int .i64 0), .nils, .nils, .nils]]⟩) (And.intro (by simp [getO]) ?_)
  refine Zy ?_
  refine FRN.ld rfl rfl (fun h' m1 => (by first | rfl | (simp only [go_sem, m1]; first | done | rfl | exact ⟨by omega, rfl⟩))) ?_
  refine Zy ?_
  refine FRN.nil ?_
  refine DW.acp [b] [] rfl rfl rfl rfl (by (try simp only [go_sem, fb6, fb8]) <;> rfl) rfl (pstop_c T b l (i) _ _ 3 (by decide)) ?_
  rintro _ _ ⟨rfl, rfl⟩
  simp only [go_sem, fb8]
  first | with_reducible refine And.intro (by simp [getO, fb6, fb8]) ?_ | skip
  refine lvc_ok _ _ _ ?_
  simp only [go_sem, fb6, fb8]
  refine hK_ _ _ ?_
  refine Zm 24 ?_
  refine AWp.ret ?_
  simp only [thenQ]
  apply endW_r [b6, b8] [] [b] [] (by (try simp only [go_sem, fb6, fb8]) <;> rfl)
  · refine ⟨(.mk kd [] tst0 [] []), i, _, _, rfl, by first | rfl | (simp only [go_sem, fb6, fb8]; done) | (simp only [go_sem, fb6, fb8]; rfl), by omega, ?_⟩
    rw [cd_w hd0 hw]
    exact RR.er_ _ _ (gv_ne (by decide))
  · simp [LeA, LeL, LeD, cmdA, tstA, kidsD, kidsL_eq, tst0, Tst.kind, Tst.mat, Tst.part, Tst.names, Tst.keys, Tst.over, Tst.limit, Cmd.kind, Cmd.texts, Cmd.test, thnD, elsD, cmdsL, cA]
 have hw : wordR l i scmT = .ok kd (i + 1) := by have h9 := kdS_ok (tab := scmT) (l := l) (i := i) (fun h8 => hc3 (h3.symm.trans h8)); rw [show kdS scmT l i scmT.length = kd from h3] at h9; exact h9
 obtain ⟨w1, w2, w3, w4⟩ := wordR_ok hw
 clear w3 w4
 have wlt := nx_lt w1
 refine Zk ?_
 refine Zp 31 ?_
 refine Zy ?_
 obtain ⟨j, hj⟩ : ∃ j : Nat, i + 1 = j := ⟨_, rfl⟩
 rw [hj]
 rw [hj] at hw
 refine Zs (Zp 159 ?_)
 refine Zc (fun hc4 => ?_) fun hc4 => ?_
 ·
  subst hc4
  have hno2 : branchR nn l j d ≠ .oof := by have h9 := hno; rw [cd_2 hd0 hw] at h9; exact h9
  have hd6 : d ≤ 6 := by rcases Nat.lt_or_ge 6 d with h9 | h9; exact absurd ⟨h9, wlt⟩ hd0; exact h9
  refine Zx (Zy ?_)
  refine ZA [b] [] (ihr nn (Nat.le_refl _) b l j d _ _ hl (by omega) hd6 hno2) ?_
  rintro _ _ ⟨ax, nx, fx, ex, rfl, rfl, ubx, rx⟩
  refine Zy ?_
  intro b10
  first | intro fb10 | have fb10 := True.intro
  try simp only [freshL] at fb10
  refine Zm 104 ?_
  refine Zp 3 ?_
  refine AWp.ret ?_
  simp only [thenQ]
  apply endW_r [b6, b8, b10] [] [b] [] (by (try simp only [go_sem, fb6, fb8, fb10]) <;> rfl)
  · refine ⟨ax, nx, fx, ex, rfl, by first | rfl | (simp only [go_sem, fb6, fb8, fb10]; done) | (simp only [go_sem, fb6, fb8, fb10]; rfl), by omega, ?_⟩
    rw [cd_2 hd0 hw]
    exact rx
  · simp [LeA, LeL, LeD, cmdA, tstA, Tst.kind, Tst.mat, Tst.part, Tst.names, Tst.keys, Tst.over, Tst.limit, Cmd.kind, Cmd.texts, Cmd.test, cA]
 refine Zk ?_
 refine Zs (Zp 262171 ?_)
 refine Zc (fun hc5 => ?_) fun hc5 => ?_
 ·
  have hk : kd = 1 ∨ kd = 8 ∨ kd = 9 := by omega
  refine Zq fun K_ k_ => ?_
  refine Zy ?_
  refine ZA [b] [] (pstrs_c T b l j _ _ hl (by omega)) ?_
  rintro _ _ ⟨ay, ny, fy, ey, rfl, rfl, uby, ry⟩
  simp only [go_sem, fb8]
  refine k_ _ _ (thenQ_n ?_)
  refine Zm 15 ?_
  refine Zs (Zx ?_)
  simp only [go_sem, fb8]
  refine ZP (sIn_c T _ _ _) ?_
  refine Zy ?_
  refine Zc (fun hc6 => ?_) fun hc6 => ?_
  ·
   exact absurd hc6 (by simp; omega)
  refine Zk ?_
  refine Zs (Zp 2063 ?_)
  refine Zc (fun hc7 => ?_) fun hc7 => ?_
  ·
   obtain ⟨p1, p2⟩ := ry.ok0 (strsR_oof _ _) hc7
   have ly := strsR_le _ _ _ _ p1
   subst hc7 p2
   refine Zq fun K_ k_ => ?_
   refine Zy ?_
   refine ZA [b] [] (pmark_c T b l ny _ _ [59] (by omega)) ?_
   rintro _ _ ⟨am, nm, fm, em, rfl, rfl, ubm, rm⟩
   refine Zy ?_
   refine k_ _ _ (thenQ_n ?_)
   refine Zm 14 ?_
   refine Zp 6 ?_
   refine AWp.ret ?_
   apply endW_r [b6, b8] [] [b] [] (by (try simp only [go_sem, fb6, fb8]) <;> rfl)
   · refine ⟨(.mk kd ay tst0 [] []), nm, fm, em, rfl, by first | rfl | (simp only [go_sem, fb6, fb8]; done) | (simp only [go_sem, fb6, fb8]; rfl), by omega, ?_⟩
     first | rw [cd_l hd0 hw hk, p1, Rd.bind_ok] | rw [cd_t hd0 hw hk2, p1, Rd.bind_ok] | rw [cd_n hd0 hw hk3]
     by_cases h9 : em = 0
     · refine rm.next (mustR_oof _ _ _) h9 ?_
       obtain ⟨_, rfl⟩ := rm.ok0 (mustR_oof _ _ _) h9
       subst h9
       exact RR.ok_ _ _
     · exact rm.thru (mustR_oof _ _ _) h9 _ _
   · simp [LeA, LeL, LeD, cmdA, tstA, kidsD, kidsL_eq, tst0, Tst.kind, Tst.mat, Tst.part, Tst.names, Tst.keys, Tst.over, Tst.limit, Cmd.kind, Cmd.texts, Cmd.test, thnD, elsD, cmdsL, cA]
  refine Zk ?_
  refine Zp 12 ?_
  refine AWp.ret ?_
  apply endW_r [b6, b8] [] [b] [] (by (try simp only [go_sem, fb6, fb8]) <;> rfl)
  · refine ⟨(.mk kd ay tst0 [] []), ny, fy, ey, rfl, by first | rfl | (simp only [go_sem, fb6, fb8]; done) | (simp only [go_sem, fb6, fb8]; rfl), by omega, ?_⟩
    rw [cd_l hd0 hw hk]
    exact ry.thru (strsR_oof _ _) hc7 _ _
  · simp [LeA, LeL, LeD, cmdA, tstA, kidsD, kidsL_eq, tst0, Tst.kind, Tst.mat, Tst.part, Tst.names, Tst.keys, Tst.over, Tst.limit, Cmd.kind, Cmd.texts, Cmd.test, thnD, elsD, cmdsL, cA]
 have hk : ¬ (kd = 1 ∨ kd = 8 ∨ kd = 9) := by omega
 refine Zk ?_
 refine Zs (Zx ?_)
 simp only [go_sem, fb8]
 refine ZP (sIn_c T _ _ _) ?_
 refine Zy ?_
 refine Zc (fun hc6 => ?_) fun hc6 => ?_
 ·
  have hk2 : kd = 5 ∨ kd = 6 ∨ kd = 7 := by omega
  refine Zx (Zy ?_)
  refine ZA [b] [] (pstr_c T b l j _ _ (by omega)) ?_
  rintro _ _ ⟨az, nz, fz, ez, rfl, rfl, ubz, rz⟩
  refine Zy ?_
  refine Zm 61 ?_
  refine AWp.cut 1 fun K_ hK_ => ?_
  simp only [List.take_succ_cons, List.take_zero, List.drop_succ_cons, List.drop_zero]
  refine Zy ?_
  refine DW.bsO (he := by first | rfl | kernel_rfl) rfl rfl (show slI Tryz.prog 31 = some (9, 1, 16) by simp only [go_sem]) (by (try simp only [go_sem]) <;> rfl) rfl (by decide) fun t1 ft1 => ?_
  try simp only [freshT] at ft1
  simp only [go_sem, fb8]
  refine hK_ _ _ ?_
  refine Zm 23 ?_
  refine Zr (thenQ_n ?_)
  refine Zs (Zp 1039 ?_)
  refine Zc (fun hc7 => ?_) fun hc7 => ?_
  ·
   obtain ⟨p1, p2⟩ := rz.ok0 (nextR_oof _ _ _) hc7
   obtain ⟨z1, -, z3⟩ := nextR_ok p1
   have zlt := nx_lt z1
   subst hc7 p2
   refine Zq fun K_ k_ => ?_
   refine Zy ?_
   refine ZA [b] [] (pmark_c T b l nz _ _ [59] (by omega)) ?_
   rintro _ _ ⟨am, nm, fm, em, rfl, rfl, ubm, rm⟩
   refine Zy ?_
   refine k_ _ _ (thenQ_n ?_)
   refine Zm 14 ?_
   refine Zp 6 ?_
   refine AWp.ret ?_
   apply endW_r [b6, b8] [t1] [b] [] (by (try simp only [go_sem, fb6, fb8]) <;> rfl)
   · refine ⟨(.mk kd [az.text] tst0 [] []), nm, fm, em, rfl, by first | rfl | (simp only [go_sem, fb6, fb8]; done) | (simp only [go_sem, fb6, fb8, ft1]; rfl), by omega, ?_⟩
     first | rw [cd_l hd0 hw hk, p1, Rd.bind_ok] | rw [cd_t hd0 hw hk2, p1, Rd.bind_ok] | rw [cd_n hd0 hw hk3]
     by_cases h9 : em = 0
     · refine rm.next (mustR_oof _ _ _) h9 ?_
       obtain ⟨_, rfl⟩ := rm.ok0 (mustR_oof _ _ _) h9
       subst h9
       exact RR.ok_ _ _
     · exact rm.thru (mustR_oof _ _ _) h9 _ _
   · simp [LeA, LeL, LeD, cmdA, tstA, strD, kidsD, kidsL_eq, tst0, Tst.kind, Tst.mat, Tst.part, Tst.names, Tst.keys, Tst.over, Tst.limit, Cmd.kind, Cmd.texts, Cmd.test, thnD, elsD, cmdsL, cA]
  refine Zk ?_
  refine Zp 12 ?_
  refine AWp.ret ?_
  apply endW_r [b6, b8] [t1] [b] [] (by (try simp only [go_sem, fb6, fb8]) <;> rfl)
  · refine ⟨(.mk kd [az.text] tst0 [] []), nz, fz, ez, rfl, by first | rfl | (simp only [go_sem, fb6, fb8]; done) | (simp only [go_sem, fb6, fb8, ft1]; rfl), by omega, ?_⟩
    rw [cd_t hd0 hw hk2]
    exact rz.thru (nextR_oof _ _ _) hc7 _ _
  · simp [LeA, LeL, LeD, cmdA, tstA, strD, kidsD, kidsL_eq, tst0, Tst.kind, Tst.mat, Tst.part, Tst.names, Tst.keys, Tst.over, Tst.limit, Cmd.kind, Cmd.texts, Cmd.test, thnD, elsD, cmdsL, cA]
 refine Zk ?_
 refine Zm 15 ?_
 refine Zs (Zp 271 ?_)
 refine Zc (fun hc7 => ?_) fun hc7 => ?_
 ·
  have hk3 : ¬ kd = 2 ∧ ¬ (kd = 1 ∨ kd = 8 ∨ kd = 9) ∧ ¬ (kd = 5 ∨ kd = 6 ∨ kd = 7) := ⟨by omega, hk, by omega⟩
  refine Zq fun K_ k_ => ?_
  refine Zy ?_
  refine ZA [b] [] (pmark_c T b l j _ _ [59] (by omega)) ?_
  rintro _ _ ⟨am, nm, fm, em, rfl, rfl, ubm, rm⟩
  refine Zy ?_
  refine k_ _ _ (thenQ_n ?_)
  refine Zm 14 ?_
  refine Zp 6 ?_
  refine AWp.ret ?_
  apply endW_r [b6, b8] [] [b] [] (by (try simp only [go_sem, fb6, fb8]) <;> rfl)
  · refine ⟨(.mk kd [] tst0 [] []), nm, fm, em, rfl, by first | rfl | (simp only [go_sem, fb6, fb8]; done) | (simp only [go_sem, fb6, fb8]; rfl), by omega, ?_⟩
    first | rw [cd_l hd0 hw hk, p1, Rd.bind_ok] | rw [cd_t hd0 hw hk2, p1, Rd.bind_ok] | rw [cd_n hd0 hw hk3]
    by_cases h9 : em = 0
    · refine rm.next (mustR_oof _ _ _) h9 ?_
      obtain ⟨_, rfl⟩ := rm.ok0 (mustR_oof _ _ _) h9
      subst h9
      exact RR.ok_ _ _
    · exact rm.thru (mustR_oof _ _ _) h9 _ _
  · simp [LeA, LeL, LeD, cmdA, tstA, kidsD, kidsL_eq, tst0, Tst.kind, Tst.mat, Tst.part, Tst.names, Tst.keys, Tst.over, Tst.limit, Cmd.kind, Cmd.texts, Cmd.test, thnD, elsD, cmdsL, cA]
 exact absurd hc7 (by simp)
abbrev PCmdT (T : Tbl) (n : Nat) : Prop := ∀ (b : Nat) (l : List Tk) (i d : Nat) (F : List (Nat × Ob)) (L : List Nat), l.length ≤ 400 → i ≤ l.length → d ≤ 7 → cmdR n l i d ≠ .oof → AC Tryz.prog T 111 [.ptr b 3 0 0, .d (.int .i64 (i : Nat)), .d (.int .i64 (d : Nat))] ⟨pob b l 0 0 :: F, L⟩ (RE (500 + n) b F L l cA (cmdR n l i d))
abbrev PBlkT (T : Tbl) (n : Nat) : Prop := ∀ (b : Nat) (l : List Tk) (i d : Nat) (F : List (Nat × Ob)) (L : List Nat), l.length ≤ 400 → i ≤ l.length → d ≤ 7 → blockR n l i d ≠ .oof → AC Tryz.prog T 242 [.ptr b 3 0 0, .d (.int .i64 (i : Nat)), .d (.int .i64 (d : Nat))] ⟨pob b l 0 0 :: F, L⟩ (RE (500 + n) b F L l csA (blockR n l i d))
abbrev PBraT (T : Tbl) (n : Nat) : Prop := ∀ (b : Nat) (l : List Tk) (i d : Nat) (F : List (Nat × Ob)) (L : List Nat), l.length ≤ 400 → i ≤ l.length → d ≤ 6 → branchR n l i d ≠ .oof → AC Tryz.prog T 191 [.ptr b 3 0 0, .d (.int .i64 (i : Nat)), .d (.int .i64 (d : Nat))] ⟨pob b l 0 0 :: F, L⟩ (RE (500 + n) b F L l cA (branchR n l i d))
theorem pcmd_n (T : Tbl) : ∀ (n m : Nat), n ≤ 100000 → m ≤ n → PCmdT T m ∧ PBlkT T m ∧ PBraT T m := by
 intro n
 induction n with
 | zero =>
  intro m hn hm
  obtain rfl : m = 0 := by omega
  exact ⟨fun b l i d F L hl hi hd hno => absurd (by rw [cmdR]) hno, fun b l i d F L hl hi hd hno => absurd (by rw [blockR]) hno, fun b l i d F L hl hi hd hno => absurd (by rw [branchR]) hno⟩
 | succ n ih =>
  intro m hn hm
  cases m with
  | zero => exact ⟨fun b l i d F L hl hi hd hno => absurd (by rw [cmdR]) hno, fun b l i d F L hl hi hd hno => absurd (by rw [blockR]) hno, fun b l i d F L hl hi hd hno => absurd (by rw [branchR]) hno⟩
  | succ m =>
   refine ⟨fun b l i d F L hl hi hd hno => ?_, fun b l i d F L hl hi hd hno => ?_, fun b l i d F L hl hi hd hno => ?_⟩
   ·exact pcommand_s T m (by omega) (fun q h2 => (ih q (by omega) (by omega)).2.2) b l i d F L hl hi hd hno
   ·exact pblock_s T m (by omega) (fun q h2 => (ih q (by omega) (by omega)).1) b l i d F L hl hi hd hno
   ·exact pbranch_s T m (by omega) (fun q h2 => (ih q (by omega) (by omega)).2.1) (fun q h2 => (ih q (by omega) (by omega)).2.2) b l i d F L hl hi hd hno
theorem pcommand_c (T : Tbl) (n : Nat) (hn : n ≤ 100000) : PCmdT T n := (pcmd_n T n n hn (Nat.le_refl _)).1
end
section
def badT : List Tk → Nat → Option (Nat × Int)
 | [], _ => none
 | t :: r, j => if tkE t = 0 then badT r (j + 1) else some (j, tkE t)
theorem badT_s {l : List Tk} {j : Nat} (h : j < l.length) : badT (l.drop j) j = if tkE (l[j]) = 0 then badT (l.drop (j + 1)) (j + 1) else some (j, tkE (l[j])) := by
 rw [List.drop_eq_getElem_cons h]; rfl
theorem badT_e {l : List Tk} {j : Nat} (h : l.length ≤ j) : badT (l.drop j) j = none := by rw [List.drop_eq_nil_of_le h]; rfl
def fuelR (l : List Tk) : Nat := 2 * l.length + 2
def parR (l : List Tk) : List Cmd × Int × Int :=
 if 400 < l.length then ([], 0, 5)
 else match badT l 0 with
  | some (i, e) => ([], i, e)
  | none => match progR (fuelR l) l 0 [] with
   | .ok cs _ => (cs, 0, 0)
   | .err i e => ([], i, gv l i e)
   | .oof => ([], 0, 0)
theorem par_1 {l : List Tk} (h : 400 < l.length) : parR l = ([], 0, 5) := by rw [parR, if_pos h]
theorem par_2 {l : List Tk} (h : ¬ 400 < l.length) {i : Nat} {e : Int} (hb : badT l 0 = some (i, e)) : parR l = ([], (i : Int), e) := by rw [parR, if_neg h, hb]
theorem par_3 {l : List Tk} (h : ¬ 400 < l.length) (hb : badT l 0 = none) {i : Nat} {e : Int} (hp : progR (fuelR l) l 0 [] = .err i e) : parR l = ([], (i : Int), gv l i e) := by rw [parR, if_neg h, hb, hp]
theorem par_4 {l : List Tk} (h : ¬ 400 < l.length) (hb : badT l 0 = none) {i : Nat} {cs : List Cmd} (hp : progR (fuelR l) l 0 [] = .ok cs i) : parR l = (cs, 0, 0) := by rw [parR, if_neg h, hb, hp]
def parV (r : List Cmd × Int × Int) : AV := .tup [.d (.slc 12 (r.1.map cmdD)), .d (.int .i64 r.2.1), .d (.int .i64 r.2.2)]
def LHd (k : Nat) (rows : List (List D)) (X : List (Nat × Ob)) (c : AV) (ts : List Nat) : Prop :=
 (∃ w, c = .own w k rows ∧ X = [] ∧ ts = [w]) ∨ ∃ b ck r z, rows = r ++ [z] ∧ z.length = k ∧ c = .lar b k r ck ∧ X = [(b, ⟨k, ck, lrows r.length (z.map .d)⟩)] ∧ ts = []
theorem LHd.own {k w : Nat} {rows : List (List D)} : LHd k rows [] (.own w k rows) [w] := .inl ⟨w, rfl, rfl, rfl⟩
theorem AWp.larO {P : Program} {T : Tbl} {Q : AQ} {sl : List AV} {code : Code} {k b2 : Nat} {rows : List (List D)} {X : List (Nat × Ob)} {c : AV} {ts : List Nat} {o1 o2 o3 : Nat × Ob} (hL : LHd k rows X c ts) (hk : 0 < k) (h1 : (b2 == o1.1) = false) (h2 : (b2 == o2.1) = false) (h3 : (b2 == o3.1) = false)
  (H : ∀ w, AWp P T code Q sl ⟨[o1, o2, o3, (b2, ⟨1, 1, [[.own w k rows]]⟩)], [w]⟩) : AWp P T code Q sl ⟨X ++ [o1, o2, o3, (b2, ⟨1, 1, [[c]]⟩)], ts⟩ := by
 rcases hL with ⟨w, rfl, rfl, rfl⟩ | ⟨b, ck, r, z, rfl, hz, rfl, rfl, rfl⟩
 ·exact H w
 ·obtain ⟨i1, o1⟩ := o1
  obtain ⟨i2, o2⟩ := o2
  obtain ⟨i3, o3⟩ := o3
  simp only at h1 h2 h3
  have n1 : i1 ≠ b2 := fun e => by simp [e] at h1
  have n2 : i2 ≠ b2 := fun e => by simp [e] at h2
  have n3 : i3 ≠ b2 := fun e => by simp [e] at h3
  refine AWp.larN (n := r.length) (b' := b2) (i := 0) (j := 0) (ob := ⟨1, 1, [[.lar b k r ck]]⟩) (r := [.lar b k r ck]) rfl (by simp [getO, n1, n2, n3]) rfl rfl hk hz fun w fw => ?_
  have := H w
  simpa [setO, n1, n2, n3] using this
theorem parse1_none (T : Tbl) (b2 b3 b4 : Nat) (h : AH) : ADefer Tryz.prog T 106 [.ptr b2 1 0 0, .ptr b3 1 0 0, .ptr b4 1 0 0] h none (fun h' => h' = h) := by
 refine ADefer.enter (t0 := 5) (t1 := 3) Tryz.call106 Tryz.func106 rfl Tryz.ntmps106 Tryz.results106 rfl rfl rfl rfl rfl rfl rfl rfl trivial ?_
 simp only [go_sem, Option.getD]
 refine AWp.rs fun K1 hK1 => ?_
 refine Zy ?_
 refine hK1 _ _ ?_
 refine AWp.cond _ rfl (fun hc => ?_) (fun hc => ?_)
 ·exact absurd hc (by simp)
 ·exact AWp.skip rfl
theorem parse1_some (T : Tbl) (b2 b3 b4 : Nat) (x y z : AV) (i e : Int) (F : List (Nat × Ob)) (L : List Nat) (h23 : (b2 == b3) = false ∧ (b3 == b2) = false) (h24 : (b2 == b4) = false ∧ (b4 == b2) = false) (h34 : (b3 == b4) = false ∧ (b4 == b3) = false) : ADefer Tryz.prog T 106 [.ptr b2 1 0 0, .ptr b3 1 0 0, .ptr b4 1 0 0] ⟨(b2, ⟨1, 1, [[x]]⟩) :: (b3, ⟨1, 1, [[y]]⟩) :: (b4, ⟨1, 1, [[z]]⟩) :: F, L⟩ (some (.ifc 174 (.agg [.d (.int .i64 i), .d (.int .i64 e)]))) (fun h' => ∃ b5 ob, (b5 == b2) = false ∧ (b5 == b3) = false ∧ (b5 == b4) = false ∧ h' = ⟨(b5, ob) :: (b2, ⟨1, 1, [[.nils]]⟩) :: (b3, ⟨1, 1, [[.d (.int .i64 i)]]⟩) :: (b4, ⟨1, 1, [[.d (.int .i64 e)]]⟩) :: F, L⟩) := by
 refine ADefer.enter (t0 := 5) (t1 := 3) Tryz.call106 Tryz.func106 rfl Tryz.ntmps106 Tryz.results106 rfl rfl rfl rfl rfl rfl rfl rfl trivial ?_
 simp only [go_sem, Option.getD]
 refine AWp.rs fun K1 hK1 => ?_
 refine Zy ?_
 refine hK1 _ _ ?_
 refine AWp.cond _ rfl (fun hc => ?_) (fun hc => ?_)
 ·refine AWp.rs fun K2 hK2 => ?_
  simp only [go_sem, assertP]
  intro b5
  intro f5
  try simp only [freshL] at f5
  refine hK2 _ _ ?_
  refine AWp.dkN true [0, 2] [1, 3] [4, 5] 6 [] rfl (by kernel_rfl) rfl fun K2 hK2 => ?_
  refine Zy ?_
  refine Exists.intro (fun h' : AH => getO b5 h'.objs = some ⟨2, 1, [[.d (.int .i64 i), .d (.int .i64 e)]]⟩) (And.intro (by simp [getO]) ?_)
  refine Zy ?_
  refine FRN.ld rfl rfl (fun h' m1 => (by first | rfl | (simp only [go_sem, m1]; first | done | rfl | exact ⟨by omega, rfl⟩))) ?_
  refine Zy ?_
  refine FRN.ld rfl rfl (fun h' m1 => (by first | rfl | (simp only [go_sem, m1]; first | done | rfl | exact ⟨by omega, rfl⟩))) ?_
  refine Zy ?_
  refine FRN.nil ?_
  refine lvc_ok _ _ _ ?_
  simp only [go_sem, *]
  try (with_reducible refine And.intro (by simp [getO, h23, h24, h34, f5]) ?_)
  refine lvc_ok _ _ _ ?_
  simp only [go_sem, *]
  try (with_reducible refine And.intro (by simp [getO, h23, h24, h34, f5]) ?_)
  refine lvc_ok _ _ _ ?_
  simp only [go_sem, *]
  refine hK2 _ _ ?_
  exact ⟨_, _, f5.1.2, f5.2.1.2, f5.2.2.1.2, rfl⟩
 ·exact absurd hc (by simp)
attribute [local go_sem] rob tcast cmdV tkD in
theorem Parse_a (T : Tbl) (hS : ScT T) (l : List Tk) : AC Tryz.prog T 53 [.d (.slc 3 (tksD l))] (⟨[], []⟩) (fun x _ => x = .ret (parV (parR l))) := by
 refine ⟨Tryz.call53, ACalls.enterD Tryz.func53 rfl Tryz.ntmps53 rfl fun hb => ?_⟩
 simp only [go_sem, Tryz.results53]
 refine AWpD.seq fun K1 hK1 => ?_
 refine Zq fun K_ k_ => ?_
 refine Zy ?_
 intro b2
 first | intro fb2 | have fb2 := True.intro
 try simp only [freshL] at fb2
 intro b3
 first | intro fb3 | have fb3 := True.intro
 try simp only [freshL] at fb3
 intro b4
 first | intro fb4 | have fb4 := True.intro
 try simp only [freshL] at fb4
 refine k_ _ _ (thenQ_n ?_)
 refine hK1 _ _ ?_
 try clear hK1 K1
 refine AWpD.seq fun K2 hK2 => ?_
 refine Zp 79 ?_
 refine Zc (fun hc0 => ?_) fun hc0 => ?_
 ·
  refine Zp 14 ?_
  refine AWp.ret ?_
  simp only [thenQ]
  simp only [endD]
  apply endW_r [b2, b3, b4] [] [] [] (by (try simp only [go_sem, fb3, fb4]) <;> rfl)
  · rfl
  · rw [par_1 (by omega)]; simp [parV, LeA, LeL, LeD]
 have hs : l.length ≤ 400 := by omega
 refine Zk ?_
 refine hK2 _ _ ?_
 try clear hK2 K2
 refine AWpD.seq fun K3 hK3 => ?_
 refine Zp 239 ?_
 refine AWp.block (Zy ?_)
 refine Zl 63 64 (fun n lc hc => ∃ (j : Nat), n = l.length - j ∧ EqS lc [(14, .d (.int .i64 j))] ∧ EqS hc (⟨[(b4, ⟨1, 1, [[.d (.int .i64 0)]]⟩), (b3, ⟨1, 1, [[.d (.int .i64 0)]]⟩), (b2, ⟨1, 1, [[.nils]]⟩)], []⟩) ∧ (j ≤ l.length) ∧ (badT l 0 = badT (l.drop j) j)) ⟨_, 0, rfl, ZE, ZE, ZI, ZI⟩ ?_
 rintro _ _ _ ⟨j, rfl, ⟨rfl⟩, ⟨rfl⟩, h1, h3⟩
 refine Zy ?_
 refine Zp 255 ?_
 refine Zs (Zc (fun hc1 => ?_) fun hc1 => ?_)
 ·
  have hlt : j < l.length := by omega
  have hgd := tksD_gD l j [] hlt
  refine Zk ?_
  refine Zs (AWp.block (Zx ?_))
  simp only [go_sem, hgd]
  (repeat (with_reducible refine And.intro ZS ?_))
  intro b6
  first | intro fb6 | have fb6 := True.intro
  try simp only [freshL] at fb6
  refine Zm 511 ?_
  refine Z1 991 (tkCheck_c T (l[j])) ?_
  refine Zp 1535 ?_
  refine Zc (fun hc2 => ?_) fun hc2 => ?_
  ·
   have hb2 : badT l 0 = some (j, tkE (l[j])) := by rw [h3, badT_s hlt, if_neg (by omega)]
   refine Zp 14 ?_
   refine AWp.ret ?_
   simp only [thenQ, blkQ]
   simp only [endD]
   apply endW_r [b2, b3, b4, b6] [] [] [] (by (try simp only [go_sem, fb3, fb4, fb6]) <;> rfl)
   · rfl
   · rw [par_2 (by omega) hb2]; simp [parV, LeA, LeL, LeD]
  have hbt : tkE (l[j]) = 0 := by omega
  refine AWp.skip (blkQ_n (thenQ_n ?_))
  refine Zr (thenQ_n ?_)
  refine Ze 207 256 [b6] [] [b4, b3, b2] [] (.e ⟨_, ZM, (j + 1), rfl, ?_, ZE, ?_, ?_⟩)
  · (try simp only [go_sem]) <;> first | exact ⟨rfl⟩ | (constructor; simp; done)
  · omega
  · rw [h3, badT_s hlt, if_pos hbt]
 have hbad : badT l 0 = none := by rw [h3, badT_e (by omega)]
 refine AWp.exit (thenQ_e (thenQ_e (blkQ_e (thenQ_n ?_))))
 refine hK3 _ _ ?_
 try clear hK3 K3
 refine AWpD.defer rfl rfl rfl (by rw [mkS_len]; decide) rfl rfl ?_
 refine Zy ?_
 refine Zm 15 ?_
 refine Zx (Zy ?_)
 intro b8
 first | intro fb8 | have fb8 := True.intro
 try simp only [freshL] at fb8
 refine AWp.ownNilH b2 0 0 12 (by (try simp only [go_sem, fb3, fb4, fb8]) <;> rfl) rfl rfl (by decide) fun t0 ft0 => ?_
 try simp only [freshT] at ft0
 simp only [go_sem, *]
 refine Zs (AWp.block (Zn 31 ?_))
 refine Zl 31 0 (fun n lc hc => ∃ (j m : Nat) (acc : List Cmd) (X : List (Nat × Ob)) (c : AV) (ts : List Nat), n = 2 * m ∧ EqS lc [] ∧ EqS hc (⟨X ++ [rob b8 l j, (b4, ⟨1, 1, [[.d (.int .i64 0)]]⟩), (b3, ⟨1, 1, [[.d (.int .i64 0)]]⟩), (b2, ⟨1, 1, [[c]]⟩)], ts⟩) ∧ (j ≤ l.length) ∧ (acc.length ≤ j) ∧ (progR (fuelR l) l 0 [] = progR m l j acc) ∧ (progR m l j acc ≠ .oof) ∧ (LHd 12 (acc.map cmdD) X c ts)) ?_ ?_
 · refine ⟨_, 0, fuelR l, [], [], .own t0 12 [], [t0], rfl, ZE, ?_, ?_, ?_, ?_, ?_, ?_⟩
   · (try simp only [go_sem]) <;> first | exact ⟨rfl⟩ | (constructor; simp [rob]; done)
   all_goals (first | omega | (simp; done) | rfl | exact prog_ne _ _ _ _ (by simp [fuelR]) (by omega) | exact LHd.own)
 rintro _ _ _ ⟨j, m, acc, X, c, ts, rfl, ⟨rfl⟩, ⟨rfl⟩, h1, h2, h4, h5, h6⟩
 obtain ⟨m, rfl⟩ : ∃ m2, m = m2 + 1 := by cases m with | zero => exact absurd (by rw [progR]) h5 | succ m => exact ⟨m, rfl⟩
 refine AWp.larO h6 (by decide) (by simp only [rob, fb8]) (by simp only [fb4]) (by simp only [fb3]) fun w => ?_
 refine Zy ?_
 refine Zs (Zp 2079 ?_)
 refine Zc (fun hc3 => ?_) fun hc3 => ?_
 ·
  have hlt : j < l.length := by omega
  refine Zk ?_
  refine AWp.block (AWp.dkPA [(2, .ptr b2 1 0 0), (3, .ptr b3 1 0 0), (4, .ptr b4 1 0 0)] (AgK.mk3 rfl rfl rfl rfl rfl rfl) rfl false [1, 4] [0, 3] [2] 5 [6] 7 8 rfl (by kernel_rfl) rfl rfl rfl fun K_ hK_ => ?_)
  refine Zy ?_
  refine Exists.intro (fun h' : AH => getO b2 h'.objs = some ⟨1, 1, [[.own w 12 (acc.map cmdD)]]⟩) (And.intro (by simp [getO, fb3, fb4, fb8]) ?_)
  refine Zy ?_
  refine FRN.ld rfl rfl (fun h' m1 => (by first | rfl | (simp only [go_sem, m1]; first | done | rfl | exact ⟨by omega, rfl⟩))) ?_
  refine Zy ?_
  refine FRN.op rfl (fun h' => (by first | rfl | (simp only [go_sem]; first | done | rfl | exact ⟨by omega, rfl⟩))) ?_
  refine Zy ?_
  refine FRN.nil ?_
  have hno2 : cmdR m l j 0 ≠ .oof := by have := h5; rw [pg_t hlt] at this; exact Rd.bind_no this
  refine ZA [b8] [] (command_c T hS m b8 l j 0 _ _ (by omega) h1 (by decide) hno2) ?_
  rintro _ _ hR
  rcases hR.cs hno2 with ⟨jc, ec, hc, rfl, rfl⟩ | ⟨ac, jc, hc, rfl, rfl⟩
  ·
   intro _ hag
   refine endD_p [b8] [] [b2, b3, b4] [] ?_
   have hp : progR (fuelR l) l 0 [] = .err jc ec := by rw [h4, pg_t hlt, hc, Rd.bind_er]
   simp only [go_sem, *]
   refine (parse1_some T b2 b3 b4 _ _ _ _ _ _ _ (by simp only [fb3, and_self]) (by simp only [fb4, and_self]) (by simp only [fb4, and_self])).mono ?_
   rintro _ ⟨b9, o9, n1, n2, n3, rfl⟩
   refine dEnd_mk [] [] [] [] (by (try simp only [go_sem, n1, n2, n3, fb3, fb4, hag.one, hag.tl.one, hag.tl.tl.one]); rfl) rfl ?_
   rw [par_3 (by omega) hbad hp]
   simp [parV, LeA, LeL, LeD]
  have lx := (cmd_le m).1 _ _ _ _ _ hc
  simp only [go_sem, *]
  first | with_reducible refine And.intro (by simp [getO, fb2, fb3, fb4, fb8, ft0]) ?_ | skip
  refine DW.appL (tk := w) (rows := acc.map cmdD) rfl rfl rfl rfl (show slI Tryz.prog 22 = some (65, 12, 192) by simp only [go_sem]) rfl rfl (by simp) rfl (by (try simp only [List.length_map]); omega) (by (try simp only [List.length_map]); omega) fun bk ck fbk => ?_
  try simp only [freshL] at fbk
  refine Zy ?_
  apply Exists.intro
  apply Exists.intro
  refine And.intro ?_ (And.intro ?_ ?_)
  ·
   refine lvc_ok _ _ _ ?_
   simp only [go_sem, *]
   try exact ⟨rfl, rfl⟩
  ·
   refine lvc_ok _ _ _ ?_
   simp only [go_sem, *]
   try exact ⟨rfl, rfl⟩
  refine hK_ _ _ ?_
  refine blkQ_n (thenQ_n ?_)
  refine Ze 31 0 [] [] [bk, b8, b4, b3, b2] [] (.e ⟨_, ZM, jc, m, (acc ++ [ac]), [(bk, ⟨12, ck, lrows acc.length ((cmdD ac).map .d)⟩)], (.lar bk 12 (acc.map cmdD) ck), [], rfl, ZE, ?_, ?_, ?_, ?_, ?_, ?_⟩)
  · (try simp only [go_sem, fb3, fb4, fb8, fbk]) <;> first | exact ⟨rfl⟩ | (constructor; simp [rob]; done)
  · omega
  · simp; omega
  · rw [h4, pg_t hlt, hc, Rd.bind_ok]
  · have h9 := h5; rw [pg_t hlt, hc, Rd.bind_ok] at h9; exact h9
  · exact .inr ⟨bk, ck, acc.map cmdD, cmdD ac, by simp, rfl, rfl, by simp, rfl⟩
 refine AWp.exit (thenQ_e (thenQ_e (blkQ_e (thenQ_n ?_))))
 refine Zp 14 ?_
 refine AWp.ret ?_
 refine endD_r [b8] [] [b2, b3, b4] [] ?_
 simp only [go_sem, *]
 refine (parse1_none T b2 b3 b4 _).mono ?_
 rintro _ rfl
 refine dEnd_mk [] [] [] [] (by (try simp only [go_sem, fb3, fb4]); rfl) rfl ?_
 rw [par_4 (by omega) hbad (by rw [h4, pg_f (by omega)])]
 simp [parV, LeA, LeL, LeD]
end
section
attribute [local go_sem] pob tcast cA cmdA tstA LHd tkD in
theorem CommandsOf_c (T : Tbl) (l : List Tk) : PC Tryz.prog T 55 [.d (.slc 3 (tksD l))] (parV (parR l)) := by
 refine ⟨Tryz.call55, PCall.enterS Tryz.func55 rfl Tryz.ntmps55 rfl fun hb => ?_⟩
 simp only [go_sem, Tryz.results55]
 refine Zp 1 ?_
 refine Zs (Zp 9 ?_)
 refine Zc (fun hc0 => ?_) fun hc0 => ?_
 ·
  refine Zp 14 ?_
  refine AWp.ret ?_
  simp only [go_sem]
  rw [par_1 (by omega)]; simp [parV, LeA, LeL, LeD]
 have hs : l.length ≤ 400 := by omega
 refine Zk ?_
 refine Zs (Zp 3 ?_)
 refine AWp.block (Zy ?_)
 refine Zl 1 2 (fun n lc hc => ∃ (j : Nat), n = l.length - j ∧ EqS lc [(5, .d (.int .i64 (j : Nat)))] ∧ EqS hc (⟨[], []⟩) ∧ (j ≤ l.length) ∧ (badT l 0 = badT (l.drop j) j)) ?_ ?_
 · refine ⟨_, 0, rfl, ZE, ZE, ?_, ?_⟩
   all_goals (first | omega | rfl)
 rintro _ _ _ ⟨j, rfl, ⟨rfl⟩, ⟨rfl⟩, h1, h3⟩
 refine Zy ?_
 refine Zs (Zp 35 ?_)
 refine Zc (fun hc1 => ?_) fun hc1 => ?_
 ·
  have hlt : j < l.length := by omega
  have hgd := tksD_gD l j [] hlt
  refine Zk ?_
  refine Zs (AWp.block (Z1 7 (tkFault_c T (l[j])) ?_))
  refine Zp 23 ?_
  refine Zc (fun hc2 => ?_) fun hc2 => ?_
  ·
   have hb2 : badT l 0 = some (j, tkE (l[j])) := by rw [h3, badT_s hlt, if_neg (by omega)]
   refine Zp 14 ?_
   refine AWp.ret ?_
   simp only [go_sem]
   rw [par_2 (by omega) hb2]; simp [parV, LeA, LeL, LeD]
  have hbt : tkE (l[j]) = 0 := by omega
  refine AWp.skip (blkQ_n (thenQ_n ?_))
  refine Zr (thenQ_n ?_)
  refine Zf 1 2 (.e ⟨_, ZM, (j + 1), rfl, ZE, ZE, ?_, ?_⟩)
  · omega
  · rw [h3, badT_s hlt, if_pos hbt]
 have hbad : badT l 0 = none := by rw [h3, badT_e (by omega)]
 refine AWp.exit (thenQ_e (thenQ_e (blkQ_e (thenQ_n ?_))))
 refine Zx (Zy ?_)
 intro b7
 first | intro fb7 | have fb7 := True.intro
 try simp only [freshL] at fb7
 refine Zm 5 ?_
 refine Zp 7 ?_
 refine Zs (Zp 15 ?_)
 refine AWp.block (Zy ?_)
 refine AWp.ownNilS 8 12 rfl rfl (by decide) fun w0 fw0 => ?_
 try simp only [freshT] at fw0
 refine Zy ?_
 refine Zl 3 12 (fun n lc hc => ∃ (j m w : Nat) (acc : List Cmd), n = 2 * m ∧ EqS lc [(8, .own w 12 (acc.map cmdD)), (9, .d (.int .i64 (j : Nat)))] ∧ EqS hc (⟨[pob b7 l 0 0], [w]⟩) ∧ (j ≤ l.length) ∧ (acc.length ≤ j) ∧ (m ≤ 100000) ∧ (progR (fuelR l) l 0 [] = progR m l j acc) ∧ (progR m l j acc ≠ .oof)) ?_ ?_
 · refine ⟨_, 0, fuelR l, w0, [], rfl, ZE, ZE, ?_, ?_, ?_, ?_, ?_⟩
   all_goals (first | omega | (simp; done) | rfl | (simp [fuelR]; omega) | exact prog_ne _ _ _ _ (by simp [fuelR]) (by omega))
 rintro _ _ _ ⟨j, m, w, acc, rfl, ⟨rfl⟩, ⟨rfl⟩, h1, h2, h6, h4, h5⟩
 obtain ⟨m, rfl⟩ : ∃ m2, m = m2 + 1 := by cases m with | zero => exact absurd (by rw [progR]) h5 | succ m => exact ⟨m, rfl⟩
 refine Zy ?_
 refine Zs (Zp 143 ?_)
 refine Zc (fun hc3 => ?_) fun hc3 => ?_
 ·
  have hlt : j < l.length := by omega
  have hno2 : cmdR m l j 0 ≠ .oof := by have h9 := h5; rw [pg_t hlt] at h9; exact Rd.bind_no h9
  refine Zk ?_
  refine AWp.block (Zx (Zy ?_))
  refine ZA [b7] [] (pcommand_c T m (by omega) b7 l j 0 _ _ hs h1 (by decide) hno2) ?_
  rintro _ _ ⟨ax, nx, fx, ex, rfl, rfl, ubx, rx⟩
  refine Zy ?_
  intro b10
  first | intro fb10 | have fb10 := True.intro
  try simp only [freshL] at fb10
  refine Zm 55 ?_
  refine Zs (Zp 543 ?_)
  refine Zc (fun hc4 => ?_) fun hc4 => ?_
  ·
   obtain ⟨i2, e2, p1, p2, p3⟩ := rx.er0 hno2 hc4
   refine Zd true [0, 1, 2, 3, 4, 5, 6, 7, 8, 9, 10] ?_
   simp only [go_sem, fb10]
   refine Zm 14 ?_
   refine AWp.ret ?_
   simp only [go_sem]
   rw [par_3 (by omega) hbad (by rw [h4, pg_t hlt, p1, Rd.bind_er]), p2, p3]; simp [parV, LeA, LeL, LeD]
  obtain ⟨p1, p2⟩ := rx.ok0 hno2 (by omega)
  have he : ex = 0 := by omega
  subst he p2
  have lx := (cmd_le m).1 _ _ _ _ _ p1
  refine Zk ?_
  refine Zx ?_
  simp only [go_sem, fb10]
  refine ZW fun t1 ft1 => ?_
  try simp only [freshT] at ft1
  refine Zy ?_
  refine Zm 23 ?_
  refine Zr (blkQ_n (thenQ_n ?_))
  refine Ze 3 12 [b10] [] [b7] [t1] (.e ⟨_, ZM, nx, m, t1, (acc ++ [ax]), rfl, ?_, ZE, ?_, ?_, ?_, ?_, ?_⟩)
  · (try simp only [go_sem]) <;> first | exact ⟨rfl⟩ | (constructor; simp [cmdD, tstD]; done)
  · omega
  · simp; omega
  · omega
  · rw [h4, pg_t hlt, p1, Rd.bind_ok]
  · have h9 := h5; rw [pg_t hlt, p1, Rd.bind_ok] at h9; exact h9
 refine AWp.exit (thenQ_e (thenQ_e (blkQ_e (thenQ_n ?_))))
 refine Zm 4 ?_
 refine Zp 7 ?_
 refine AWp.ret ?_
 simp only [go_sem]
 rw [par_4 (by omega) hbad (by rw [h4, pg_f (by omega)])]; simp [parV, LeA, LeL, LeD]
end
section
open Go.RowKit
theorem HasPre_p (T : Tbl) (s p : Tx) : PC Tryz.prog T 166 [.d (.str s), .d (.str p)] (.d (.bool (Lib.hasPrefix s p))) := PC.old Tryz.call166 fun F w vs hF hT R => by
 obtain ⟨v, u, rfl, hv, hu⟩ := slr2 R
 obtain ⟨t, rfl, e1, _⟩ := hv.str_inv
 obtain ⟨t2, rfl, e2, _⟩ := hu.str_inv
 subst e1 e2
 refine (Tryz.strings_HasPrefix t t2 w).mono ?_
 rintro e w' ⟨rfl, rfl⟩
 exact ⟨_, rfl, Below.refl _ _, .d (.bool _)⟩
theorem Index_p (T : Tbl) (hL : LibT T) (s p : Tx) (h1 : s.length ≤ 1048576) : PC Tryz.prog T 167 [.d (.str s), .d (.str p)] (.d (.int .i64 (Lib.index s p))) := PC.old Tryz.call167 fun F w vs hF hT R => by
 obtain ⟨v, u, rfl, hv, hu⟩ := slr2 R
 obtain ⟨t, rfl, e1, _⟩ := hv.str_inv
 obtain ⟨t2, rfl, e2, _⟩ := hu.str_inv
 obtain ⟨_, m, hm⟩ := hL.lib0 hF hT
 subst e1 e2
 have hsz : t.size ≤ 1048576 := h1
 refine (Tryz.strings_Index t t2 m w (by omega) hm).mono ?_
 rintro e w' ⟨rfl, rfl⟩
 exact ⟨_, rfl, Below.refl _ _, .d (.int _ _)⟩
theorem IndexByte_p (T : Tbl) (s : Tx) (c : UInt8) : PC Tryz.prog T 173 [.d (.str s), .d (.int .u8 (c.toNat : Int))] (.d (.int .i64 (Lib.indexByte s c))) := PC.old Tryz.call173 fun F w vs hF hT R => by
 obtain ⟨v, u, rfl, hv, hu⟩ := slr2 R
 obtain ⟨t, rfl, e1, _⟩ := hv.str_inv
 obtain rfl := hu.int_inv
 subst e1
 refine (Tryz.strings_IndexByte t c.toNat w).mono ?_
 rintro e w' ⟨rfl, rfl⟩
 refine ⟨_, rfl, Below.refl _ _, ?_⟩
 have : (c.toNat : Int).toNat.toUInt8 = c := by simp
 rw [this]
 exact .d (.int _ _)
def SkR (b : Nat) (s : Tx) (i : Nat) (F : List (Nat × Ob)) (L : List Nat) (x : AR) (h : AH) : Prop :=
 ∃ (j : Nat) (ok : Bool), sil 0 [] (s.drop i) = (s.drop j, ok) ∧ i ≤ j ∧ j ≤ s.length ∧ x = .ret (.d (.bool ok)) ∧ h = ⟨(b, ⟨2, 1, [[.d (.str s), .d (.int .i64 ((j : Nat) : Int))]]⟩) :: F, L⟩
theorem head_at {s : Tx} {j n : Nat} (h : ((s.getD j 0).toNat : Int) = n) (hn : n < 256) (h0 : 0 < n) : j < s.length ∧ s.drop j = UInt8.ofNat n :: s.drop (j + 1) := by
 have e := u8_is h hn
 rcases Nat.lt_or_ge j s.length with hj | hj
 ·refine ⟨hj, ?_⟩
  rw [List.drop_eq_getElem_cons hj]
  have : s.getD j 0 = s[j] := by simp [List.getD, hj]
  rw [← e, this]
 ·have : s.getD j 0 = 0 := by simp [List.getD, hj]
  rw [this] at h
  simp at h
  omega
theorem pre_at {s : Tx} {j : Nat} (h : Lib.hasPrefix (s.drop j) [47, 42] = true) : j + 2 ≤ s.length ∧ s.drop j = 47 :: 42 :: s.drop (j + 2) := by
 unfold Lib.hasPrefix at h
 have h1 := List.isPrefixOf_iff_prefix.1 h
 obtain ⟨q, hq⟩ := h1
 have hl := congrArg List.length hq
 simp at hl
 refine ⟨by omega, ?_⟩
 have : s.drop (j + 2) = q := by rw [← List.drop_drop, ← hq]; rfl
 rw [this, ← hq]; rfl
theorem sk_tok {s : Tx} {j : Nat} (hb : ∀ c r, s.drop j = c :: r → blB c = false) (h1 : ¬ ((s.getD j 0).toNat : Int) = 35) (h2 : Lib.hasPrefix (s.drop j) [47, 42] = false) : sil 0 [] (s.drop j) = (s.drop j, true) := by
 cases h : s.drop j with
 | nil => exact sil_nil
 | cons c r =>
  have hj : j < s.length := by
   rcases Nat.lt_or_ge j s.length with h9 | h9
   ·exact h9
   ·rw [List.drop_eq_nil_of_le h9] at h; cases h
  have hc : s.getD j 0 = c := by
   rw [List.drop_eq_getElem_cons hj] at h
   injection h with e1 e2
   simp [List.getD, hj, e1]
  refine sil_tok (hb c r h) (fun e => h1 (by rw [hc, e]; rfl)) fun ⟨e1, e2⟩ => ?_
  cases r with
  | nil => cases e2
  | cons d q =>
   simp at e2
   subst e1 e2
   rw [h] at h2
   simp [Lib.hasPrefix, List.isPrefixOf] at h2
theorem ix_le : ∀ {r : Tx} {n : Nat}, Lib.index r [42, 47] = n → n + 2 ≤ r.length
 | [], n, h => by unfold Lib.index at h; simp at h
 | c :: r, n, h => by
  unfold Lib.index at h
  split at h
  ·rename_i hp
   have := (List.isPrefixOf_iff_prefix.1 hp).length_le
   simp at this ⊢
   omega
  ·split at h
   ·omega
   ·have := Lib.index_ge r [42, 47]
    have := ix_le (r := r) (n := n - 1) (by simp at *; omega)
    simp
    omega
theorem dw_head {so : UInt8 → Bool} {l : Tx} {c : UInt8} {r : Tx} (h : l.dropWhile so = c :: r) : so c = false := by
 induction l with
 | nil => cases h
 | cons a l ih =>
  cases ha : so a with
  | true => rw [List.dropWhile_cons_of_pos ha] at h; exact ih h
  | false => rw [List.dropWhile_cons_of_neg (by simp [ha])] at h; injection h with e1 e2; rw [← e1]; exact ha
attribute [local go_sem] icast8 List.take_length in
theorem cskip_c (T : Tbl) (hL : LibT T) (b : Nat) (s : Tx) (i : Nat) (F : List (Nat × Ob)) (L : List Nat) (hi : i ≤ s.length) (hs : s.length ≤ 1048576) : AC Tryz.prog T 103 [.ptr b 2 0 0] (⟨(b, ⟨2, 1, [[.d (.str s), .d (.int .i64 ((i : Nat) : Int))]]⟩) :: F, L⟩) (SkR b s i F L) := by
 refine ⟨Tryz.call103, ACalls.enterS Tryz.func103 rfl Tryz.ntmps103 rfl fun hb => ?_⟩
 simp only [go_sem, Tryz.results103]
 refine Zp 1 ?_
 refine AWp.block (Zy ?_)
 refine Zl 1 0 (fun n lc hc => ∃ (j : Nat), n = s.length - j ∧ EqS lc [] ∧ EqS hc (⟨(b, ⟨2, 1, [[.d (.str s), .d (.int .i64 ((j : Nat) : Int))]]⟩) :: F, L⟩) ∧ (i ≤ j) ∧ (j ≤ s.length) ∧ (sil 0 [] (s.drop j) = sil 0 [] (s.drop i))) ?_ ?_
 · refine ⟨_, i, rfl, ZE, ZE, ?_, ?_, ?_⟩
   all_goals (first | omega | rfl)
 rintro _ _ _ ⟨j, rfl, ⟨rfl⟩, ⟨rfl⟩, h1, h2, h3⟩
 refine Zy ?_
 refine AWp.block ?_
 have hk0 := dw_at blB s j
 have hk1 := tw_len blB s j h2
 obtain ⟨k, hk⟩ : ∃ k, k = j + ((s.drop j).takeWhile blB).length := ⟨_, rfl⟩
 rw [← hk] at hk0 hk1
 have hk3 : sil 0 [] (s.drop k) = sil 0 [] (s.drop i) := by rw [← hk0, sil_dw, h3]
 have hb0 : ∀ c r, s.drop k = c :: r → blB c = false := fun c r h9 => dw_head (hk0.trans h9)
 refine Zx (Zy ?_)
 refine ZA [b] [] (span_c T b s j F L h2 hs _ blB (bl_c T)) ?_
 rintro _ _ ⟨rfl, rfl⟩
 rw [← hk]
 refine Zy ?_
 refine AWp.block (Zx (Zy ?_))
 refine ZA [b] [] (cnext_c T b s k F L hk1 hs) ?_
 rintro _ _ ⟨rfl, rfl⟩
 refine Zy ?_
 refine Zm 9 ?_
 refine Zc (fun hc0 => ?_) fun hc0 => ?_
 ·
  obtain ⟨hkl, hd⟩ := head_at (n := 35) hc0 (by decide) (by decide)
  have hn0 := dw_at nlB s k
  have hn1 := tw_len nlB s k hk1
  have hn2 : 1 ≤ ((s.drop k).takeWhile nlB).length := by rw [hd, List.takeWhile_cons_of_pos (by decide)]; simp
  obtain ⟨q, hq⟩ : ∃ q, q = k + ((s.drop k).takeWhile nlB).length := ⟨_, rfl⟩
  rw [← hq] at hn0 hn1
  have hst : sil 0 [] (s.drop q) = sil 0 [] (s.drop i) := by rw [← hk3, ← hn0, hd]; exact sil_hash.symm
  refine Zq fun K_ k_ => ?_
  refine Zy ?_
  refine ZA [b] [] (span_c T b s k F L hk1 hs _ nlB (nl_c T)) ?_
  rintro _ _ ⟨rfl, rfl⟩
  rw [← hq]
  refine Zy ?_
  refine k_ _ _ (blkQ_n (blkQ_n (thenQ_n ?_)))
  refine Ze 1 0 [] [] [b] [] (.e ⟨_, ZM, q, rfl, ZE, ZE, ?_, ?_, ?_⟩)
  · omega
  · omega
  · first | exact hst | exact (hst).symm
 refine Zd true [0, 1, 2, 3, 4, 5, 6, 7, 8, 9, 10] ?_
 refine Zy ?_
 (repeat (with_reducible refine And.intro ZS ?_))
 refine DW.pcr rfl rfl rfl rfl (HasPre_p T _ _) rfl rfl ?_
 refine Zy ?_
 refine Zm 5 ?_
 refine Zc (fun hc1 => ?_) fun hc1 => ?_
 ·
  obtain ⟨hp2, hpd⟩ := pre_at hc1
  have hk2 : ((k : Int) + 2).toNat = k + 2 := by omega
  have hcm : sil 0 [] (s.drop i) = if Lib.index (s.drop (k + 2)) [42, 47] < 0 then (s.drop k, false) else sil 0 [] ((s.drop (k + 2)).drop ((Lib.index (s.drop (k + 2)) [42, 47]).toNat + 2)) := by rw [← hk3, hpd, sil_com, sil2_ix]
  refine Zd true [0, 1, 2, 3, 4, 5, 6, 7, 8, 9, 10, 11] ?_
  simp only [go_sem, hk2]
  (repeat (with_reducible refine And.intro ZS ?_))
  refine DW.pcr rfl rfl rfl rfl (Index_p T hL _ _ (by simp; omega)) rfl rfl ?_
  refine Zy ?_
  refine Zm 3 ?_
  refine Zs (Zp 11 ?_)
  refine Zc (fun hc2 => ?_) fun hc2 => ?_
  ·
   rw [if_pos hc2] at hcm
   refine Zp 2 ?_
   refine AWp.ret ?_
   simp only [thenQ, blkQ]
   apply endW_r [] [] [b] [] (by (try simp only [go_sem]) <;> rfl)
   · exact ⟨k, false, hcm, by omega, hk1, rfl, by first | rfl | (simp only [go_sem]; done)⟩
   · simp [LeA, LeD]
  obtain ⟨n, hn⟩ : ∃ n : Nat, Lib.index (s.drop (k + 2)) [42, 47] = n := ⟨_, (Int.toNat_of_nonneg (by omega)).symm⟩
  have hix := ix_le hn
  rw [List.length_drop] at hix
  rw [if_neg (by omega), hn, List.drop_drop, Int.toNat_natCast, show k + 2 + (n + 2) = k + n + 4 by omega] at hcm
  have e4 : (k : Int) + ((n : Int) + 4) = ((k + n + 4 : Nat) : Int) := by omega
  rw [hn]
  refine Zk ?_
  refine Zr (blkQ_n (blkQ_n (thenQ_n ?_)))
  refine Ze 1 0 [] [] [b] [] (.e ⟨_, ZM, k + n + 4, rfl, ZE, ZE, ?_, ?_, ?_⟩)
  · omega
  · omega
  · first | exact hcm | exact (hcm).symm
 refine Zp 2 ?_
 refine AWp.ret ?_
 simp only [thenQ, blkQ]
 apply endW_r [] [] [b] [] (by (try simp only [go_sem]) <;> rfl)
 · exact ⟨k, true, hk3.symm.trans (sk_tok hb0 hc0 (by simpa using hc1)), by omega, hk1, rfl, by first | rfl | (simp only [go_sem]; done)⟩
 · simp [LeA, LeD]
end
section
open Go.RowKit
def dvF (a : Nat) (l : Tx) : Nat := l.foldl (fun a c => a * 10 + (c.toNat - 48)) a
def dcV (l : Tx) : Nat := dvF 0 l
theorem dvF_le : ∀ (l : Tx) (a : Nat), a ≤ dvF a l
 | [], a => Nat.le_refl _
 | c :: l, a => by
  have := dvF_le l (a * 10 + (c.toNat - 48))
  unfold dvF at this ⊢
  rw [List.foldl_cons]
  omega
theorem pu_dv : ∀ (l : Tx) (a : Nat), (∀ c ∈ l, digB c = true) → a < 18446744073709551616 → Lib.parseUint10 a l = if dvF a l < 18446744073709551616 then .ok (dvF a l) else .range
 | [], a, _, ha => by rw [Lib.parseUint10, if_pos (show dvF a [] < _ from ha)]; rfl
 | c :: l, a, h, ha => by
  have hc := h c (List.mem_cons_self ..)
  simp only [digB, Bool.and_eq_true, decide_eq_true_eq] at hc
  have e : dvF a (c :: l) = dvF (a * 10 + (c.toNat - 48)) l := rfl
  have hle := dvF_le l (a * 10 + (c.toNat - 48))
  rw [Lib.parseUint10, if_pos ⟨by omega, by omega⟩]
  split
  ·rw [if_neg (by omega)]
  split
  ·rw [if_neg (by omega)]
  rw [pu_dv l _ (fun x hx => h x (List.mem_cons_of_mem _ hx)) (by omega), e]
theorem atoi_dv {l : Tx} (h : ∀ c ∈ l, digB c = true) (h0 : l ≠ []) : Lib.atoiAll l = if dcV l < 9223372036854775808 then .ok (dcV l : Int) else .range := by
 cases l with
 | nil => exact absurd rfl h0
 | cons c r =>
  have hc := h c (List.mem_cons_self ..)
  simp only [digB, Bool.and_eq_true, decide_eq_true_eq] at hc
  rw [Lib.atoiAll_plain c r (by omega) (by omega), Lib.parseMag, if_neg (by simp), pu_dv _ _ h (by decide)]
  show Lib.signless (if dcV (c :: r) < _ then _ else _) = _
  by_cases h1 : dcV (c :: r) < 18446744073709551616
  ·rw [if_pos h1]
   by_cases h2 : dcV (c :: r) < 9223372036854775808
   ·rw [if_pos h2, Lib.signless, if_neg (by unfold dcV at h2; omega)]; rfl
   ·rw [if_neg h2, Lib.signless, if_pos (by unfold dcV at h2; omega)]
  ·rw [if_neg h1, if_neg (by omega)]; rfl
def ErT (T : Tbl) : Prop := ∃ (te : TypeId) (pe : Value), (T 10)[0]? = some (.raw (.iface te pe))
theorem atoi_lo (T : Tbl) (l : Tx) (h : ∀ c ∈ l, digB c = true) (h0 : l ≠ []) (hl : l.length ≤ 1048576) (hv : dcV l < 9223372036854775808) : PC Tryz.prog T 235 [.d (.str l)] (.tup [.d (.int .i64 (dcV l : Int)), .nili]) := PC.old Tryz.call235 fun F w vs hF hT R => by
 obtain ⟨v, rfl, hv1⟩ := slr1 R
 obtain ⟨t, rfl, e1, _⟩ := hv1.str_inv
 subst e1
 have hsz : t.size ≤ 1048576 := hl
 refine (Tryz.strconv_Atoi_ok t (by omega) _ (by rw [atoi_dv h h0, if_pos hv]) w).mono ?_
 rintro e w' ⟨rfl, hw⟩
 refine ⟨_, rfl, ?_, VR.tup [.d (.int .i64 _), .nili] [_, _] rfl fun i a v ha hv => ?_⟩
 ·rcases hw with rfl | ⟨k, rfl⟩
  ·exact Below.refl _ _
  ·first | exact Lib.bytesWorld_below _ _ _ | exact bytesWorld_below _ _ _ | exact below_bytesWorld _ _ _ _ (Nat.le_refl _)
 match i, ha, hv with
 | 0, ha, hv => simp at ha hv; subst ha hv; exact .d (.int _ _)
 | 1, ha, hv => simp at ha hv; subst ha hv; exact .nili
 | i + 2, ha, hv => simp at ha
theorem atoi_hi (T : Tbl) (hE : ErT T) (l : Tx) (h : ∀ c ∈ l, digB c = true) (h0 : l ≠ []) (hl : l.length ≤ 1048576) (hv : ¬ dcV l < 9223372036854775808) : PC Tryz.prog T 235 [.d (.str l)] (.tup [.d (.int .i64 (Lib.atoiSat l)), .ifc 331 .any]) := PC.old Tryz.call235 fun F w vs hF hT R => by
 obtain ⟨v, rfl, hv1⟩ := slr1 R
 obtain ⟨t, rfl, e1, _⟩ := hv1.str_inv
 subst e1
 have hsz : t.size ≤ 1048576 := hl
 obtain ⟨te, pe, hte⟩ := hE
 obtain ⟨u, hu1, hu2⟩ := tbl_cell hF hT hte
 have hu3 : u = .iface te pe := by cases hu2; rfl
 subst hu3
 refine (Tryz.strconv_Atoi_range t (by omega) (by rw [atoi_dv h h0, if_neg hv]) _ w hu1 (.inr ⟨te, pe, rfl⟩)).mono ?_
 rintro e w' ⟨N, rfl, _, _, hb⟩
 refine ⟨_, rfl, hb, VR.tup [.d (.int .i64 _), .ifc _ .any] [_, _] rfl fun i a v ha hv => ?_⟩
 match i, ha, hv with
 | 0, ha, hv => simp at ha hv; subst ha hv; exact .d (.int _ _)
 | 1, ha, hv => simp at ha hv; subst ha hv; exact .ifc _ (.any _)
 | i + 2, ha, hv => simp at ha
def numM (r : Tx) : Nat × Tx := if (r.headD 0).toNat = 75 ∨ (r.headD 0).toNat = 107 then (10, r.drop 1) else if (r.headD 0).toNat = 77 ∨ (r.headD 0).toNat = 109 then (20, r.drop 1) else (0, r)
def limN (k : Nat) : Nat := if k = 10 then 2097151 else if k = 20 then 2047 else 2147483647
def mulN (k : Nat) : Nat := if k = 10 then 1024 else if k = 20 then 1048576 else 1
def numS (l : Tx) : Int × Int × Tx :=
 if wdB ((numM (l.dropWhile digB)).2.headD 0) = true then (0, 3, (numM (l.dropWhile digB)).2)
 else if limN (numM (l.dropWhile digB)).1 < dcV (l.takeWhile digB) then (0, 6, (numM (l.dropWhile digB)).2)
 else (((dcV (l.takeWhile digB) * mulN (numM (l.dropWhile digB)).1 : Nat) : Int), 0, (numM (l.dropWhile digB)).2)
theorem numS_3 {l q : Tx} {k : Nat} (hm : numM (l.dropWhile digB) = (k, q)) (hw : wdB (q.headD 0) = true) : numS l = (0, 3, q) := by rw [numS, hm, if_pos hw]
theorem numS_6 {l q : Tx} {k : Nat} (hm : numM (l.dropWhile digB) = (k, q)) (hw : wdB (q.headD 0) = false) (h : limN k < dcV (l.takeWhile digB)) : numS l = (0, 6, q) := by rw [numS, hm, if_neg (by simpa using hw), if_pos h]
theorem numS_0 {l q : Tx} {k : Nat} (hm : numM (l.dropWhile digB) = (k, q)) (hw : wdB (q.headD 0) = false) (h : ¬ limN k < dcV (l.takeWhile digB)) : numS l = (((dcV (l.takeWhile digB) * mulN k : Nat) : Int), 0, q) := by rw [numS, hm, if_neg (by simpa using hw), if_neg h]
theorem hd_at (s : Tx) (j : Nat) : (s.drop j).headD 0 = s.getD j 0 := by
 rcases Nat.lt_or_ge j s.length with h | h
 ·rw [List.drop_eq_getElem_cons h]; simp [List.getD, h]
 ·rw [List.drop_eq_nil_of_le h]; simp [List.getD, h]
theorem nM_10 {s : Tx} {k : Nat} (h : ((s.getD k 0).toNat : Int) = 75 ∨ ((s.getD k 0).toNat : Int) = 107) : numM (s.drop k) = (10, s.drop (k + 1)) := by rw [numM, hd_at, if_pos (by omega), List.drop_drop]
theorem nM_20 {s : Tx} {k : Nat} (h1 : ¬ (((s.getD k 0).toNat : Int) = 75 ∨ ((s.getD k 0).toNat : Int) = 107)) (h : ((s.getD k 0).toNat : Int) = 77 ∨ ((s.getD k 0).toNat : Int) = 109) : numM (s.drop k) = (20, s.drop (k + 1)) := by rw [numM, hd_at, if_neg (by omega), if_pos (by omega), List.drop_drop]
theorem nM_0 {s : Tx} {k : Nat} (h1 : ¬ (((s.getD k 0).toNat : Int) = 75 ∨ ((s.getD k 0).toNat : Int) = 107)) (h : ¬ (((s.getD k 0).toNat : Int) = 77 ∨ ((s.getD k 0).toNat : Int) = 109)) : numM (s.drop k) = (0, s.drop k) := by rw [numM, hd_at, if_neg (by omega), if_neg (by omega)]
theorem get_lt {s : Tx} {j : Nat} (h : 0 < (s.getD j 0).toNat) : j < s.length := by
 rcases Nat.lt_or_ge j s.length with h9 | h9
 ·exact h9
 ·simp [List.getD, h9] at h
def NmRc (b : Nat) (s : Tx) (i : Nat) (F : List (Nat × Ob)) (L : List Nat) (x : AR) (h : AH) : Prop :=
 ∃ (v e : Int) (j : Nat), numS (s.drop i) = (v, e, s.drop j) ∧ j ≤ s.length ∧ x = .ret (.tup [.d (.int .i64 v), .d (.int .i64 e)]) ∧ h = ⟨(b, ⟨2, 1, [[.d (.str s), .d (.int .i64 ((j : Nat) : Int))]]⟩) :: F, L⟩
theorem pwr_a : (2 : Int) ^ min (Int.toNat 10) 64 = 1024 := by decide
theorem pwr_b : (2 : Int) ^ min (Int.toNat 20) 64 = 1048576 := by decide
theorem pwr_c : (2 : Int) ^ min 0 64 = 1 := by decide
theorem fd_a : Int.fdiv 2147483647 1024 = 2097151 := by decide
theorem fd_b : Int.fdiv 2147483647 1048576 = 2047 := by decide
theorem fd_c : Int.fdiv 2147483647 1 = 2147483647 := by decide
theorem tw_dig (s : Tx) (i : Nat) : ∀ c ∈ (s.drop i).takeWhile digB, digB c = true := fun c hc => by
 have := List.all_takeWhile (p := digB) (l := s.drop i)
 exact List.all_eq_true.1 this c hc
attribute [local go_sem] icast8 pwr_a pwr_b pwr_c fd_a fd_b fd_c Bool.not_false Bool.not_true in
theorem cnum_c (T : Tbl) (hE : ErT T) (b : Nat) (s : Tx) (i : Nat) (F : List (Nat × Ob)) (L : List Nat) (hi : i < s.length) (hs : s.length ≤ 1048576) (hd : digB (s.getD i 0) = true) : AC Tryz.prog T 171 [.ptr b 2 0 0] (⟨(b, ⟨2, 1, [[.d (.str s), .d (.int .i64 ((i : Nat) : Int))]]⟩) :: F, L⟩) (NmRc b s i F L) := by
 refine ⟨Tryz.call171, ACalls.enterS Tryz.func171 rfl Tryz.ntmps171 rfl fun hb => ?_⟩
 have hk0 := dw_at digB s i
 have hk1 := tw_len digB s i (by omega)
 obtain ⟨k, hk⟩ : ∃ k, k = i + ((s.drop i).takeWhile digB).length := ⟨_, rfl⟩
 rw [← hk] at hk0 hk1
 replace hk := hk.symm
 have hD := tw_dig s i
 have hD0 : (s.drop i).takeWhile digB ≠ [] := by rw [List.drop_eq_getElem_cons hi, List.takeWhile_cons_of_pos (by simpa [List.getD, hi] using hd)]; simp
 have hDl : ((s.drop i).takeWhile digB).length ≤ 1048576 := by omega
 simp only [go_sem, Tryz.results171]
 refine Zp 1 ?_
 refine Zx (Zy ?_)
 refine ZA [b] [] (span_c T b s i F L (by omega) hs _ digB (digit_c T)) ?_
 rintro _ _ ⟨rfl, rfl⟩
 rw [hk]
 refine Zy ?_
 by_cases hv : dcV ((s.drop i).takeWhile digB) < 9223372036854775808
 ·
  refine Zx (Zy ?_)
  refine ZP (atoi_lo T _ hD hD0 hDl hv) ?_
  refine Zy ?_
  refine Zm 13 ?_
  refine Zp 15 ?_
  refine Zs (Zx (Zy ?_))
  refine ZA [b] [] (cnext_c T b s k F L (by omega) hs) ?_
  rintro _ _ ⟨rfl, rfl⟩
  refine Zy ?_
  refine AWp.block (Zs (Zp 111 ?_))
  refine Zy ?_
  apply Za (z := (_ || _)) 31 17
  ·
   refine AWp.cond _ rfl (fun hc0 => ?_) fun hc0 => ?_
   rotate_left
   ·
    refine Zr (thenQ_n ?_)
    refine Zf 31 32 (.e ⟨EqS.bo (or_f hc0 rfl), ⟨rfl⟩⟩)
   refine AWp.skip (thenQ_n ?_)
   refine Zf 31 32 (.e ⟨EqS.bo (or_t hc0), ⟨rfl⟩⟩)
  refine Zy ?_
  refine Zc (fun hc1 => ?_) fun hc1 => ?_
  ·
   have hm := nM_10 hc1
   rw [← hk0] at hm
   have hkl : k < s.length := get_lt (by omega)
   refine Zp 15 ?_
   refine Zr (blkQ_n (thenQ_n ?_))
   refine Zm 15 ?_
   refine Zs ?_
   rcases hlb : letB (s.getD (k + 1) 0) with _ | _
   ·
    refine AWp.rsG 5 fun K_ hK_ => ?_
    simp only [List.take_succ_cons, List.take_zero, List.drop_succ_cons, List.drop_zero]
    refine Zy ?_
    refine ZA [b] [] (cnext_c T b s (k + 1) F L (by omega) hs) ?_
    rintro _ _ ⟨rfl, rfl⟩
    refine Zy ?_
    refine ZP (letter_c T _) ?_
    simp only [go_sem, hlb]
    refine LV.gcall rfl rfl (by first | rfl | (simp only [go_sem, hlb]; done) | (simp only [go_sem, hlb]; rfl)) rfl rfl (by rfl) (LeH.refl _) (by first | rfl | (simp only [go_sem, hlb]; done) | (simp only [go_sem, hlb]; rfl)) (cnext_c T b s (k + 1) F L (by omega) hs) ?_
    rintro _ _ ⟨rfl, rfl⟩
    refine LV.leH (LeH.refl _) (LV.lvc ?_)
    refine Zy ?_
    refine ZQ (fun hg => digit_c T _) ?_
    refine Zy ?_
    refine hK_ _ _ ?_
    refine Zm 2062 ?_
    refine Zc (fun hc4 => ?_) fun hc4 => ?_
    ·
     have hw : wdB ((s.drop (k + 1)).headD 0) = true := by rw [hd_at, wdB, hlb]; first | rfl | (simpa using hc4)
     refine Zp 3 ?_
     refine AWp.ret ?_
     simp only [thenQ]
     apply endW_r [] [] [b] [] (by (try simp only [go_sem]) <;> rfl)
     · exact ⟨0, 3, (k + 1), numS_3 hm hw, by omega, rfl, by first | rfl | (simp only [go_sem]; done)⟩
     · simp [LeA, LeD, LeL]
    have hw : wdB ((s.drop (k + 1)).headD 0) = false := by rw [hd_at, wdB, hlb]; simpa using hc4
    refine Zk ?_
    refine Zs (AWp.rsG 1 fun K_ hK_ => ?_)
    simp only [List.take_succ_cons, List.take_zero, List.drop_succ_cons, List.drop_zero]
    refine Zy ?_
    refine LV.dw1 ?_
    refine DW.nilN rfl rfl (by first | rfl | (simp only [go_sem]; done)) (by simp only [go_sem]) ?_
    refine DW.nil ?_
    refine LV.lvc ?_
    refine Zy ?_
    (repeat (with_reducible refine And.intro ZS ?_))
    refine hK_ _ _ ?_
    refine Zm 2053 ?_
    refine Zc (fun hc5 => ?_) fun hc5 => ?_
    ·
     refine Zp 3 ?_
     refine AWp.ret ?_
     simp only [thenQ]
     apply endW_r [] [] [b] [] (by (try simp only [go_sem]) <;> rfl)
     · exact ⟨0, 6, (k + 1), numS_6 hm hw (by simp only [limN]; first | omega | (simp; omega)), by omega, rfl, by first | rfl | (simp only [go_sem]; done)⟩
     · simp [LeA, LeD, LeL]
    refine Zk ?_
    refine Zp 3 ?_
    refine AWp.ret ?_
    apply endW_r [] [] [b] [] (by (try simp only [go_sem]) <;> rfl)
    · exact ⟨_, 0, (k + 1), numS_0 hm hw (by simp only [limN]; first | omega | (simp; omega)), by omega, rfl, by first | rfl | (simp only [go_sem]; done)⟩
    · simp [LeA, LeD, LeL, mulN]
   refine Zx (Zy ?_)
   refine ZA [b] [] (cnext_c T b s (k + 1) F L (by omega) hs) ?_
   rintro _ _ ⟨rfl, rfl⟩
   refine Zy ?_
   refine ZP (letter_c T _) ?_
   simp only [go_sem, hlb]
   refine DW.skipc rfl rfl ?_
   refine Zy ?_
   refine DW.skipc rfl rfl ?_
   refine Zy ?_
   (repeat (with_reducible refine And.intro ZS ?_))
   refine Zm 2062 ?_
   refine Zc (fun hc4 => ?_) fun hc4 => ?_
   ·
    have hw : wdB ((s.drop (k + 1)).headD 0) = true := by rw [hd_at, wdB, hlb]; first | rfl | (simpa using hc4)
    refine Zp 3 ?_
    refine AWp.ret ?_
    simp only [thenQ]
    apply endW_r [] [] [b] [] (by (try simp only [go_sem]) <;> rfl)
    · exact ⟨0, 3, (k + 1), numS_3 hm hw, by omega, rfl, by first | rfl | (simp only [go_sem]; done)⟩
    · simp [LeA, LeD, LeL]
   exact absurd hc4 (by first | (simp; done) | omega | (simp [*]; done))
  refine Zs (Zp 95 ?_)
  refine Zy ?_
  apply Za (z := (_ || _)) 15 27
  ·
   refine AWp.cond _ rfl (fun hc2 => ?_) fun hc2 => ?_
   rotate_left
   ·
    refine Zr (thenQ_n ?_)
    refine Zf 15 32 (.e ⟨EqS.bo (or_f hc2 rfl), ⟨rfl⟩⟩)
   refine AWp.skip (thenQ_n ?_)
   refine Zf 15 32 (.e ⟨EqS.bo (or_t hc2), ⟨rfl⟩⟩)
  refine Zy ?_
  refine Zc (fun hc3 => ?_) fun hc3 => ?_
  ·
   have hm := nM_20 (by omega) hc3
   rw [← hk0] at hm
   have hkl : k < s.length := get_lt (by omega)
   refine Zp 15 ?_
   refine Zr (blkQ_n (thenQ_n ?_))
   refine Zm 15 ?_
   refine Zs ?_
   rcases hlb : letB (s.getD (k + 1) 0) with _ | _
   ·
    refine AWp.rsG 5 fun K_ hK_ => ?_
    simp only [List.take_succ_cons, List.take_zero, List.drop_succ_cons, List.drop_zero]
    refine Zy ?_
    refine ZA [b] [] (cnext_c T b s (k + 1) F L (by omega) hs) ?_
    rintro _ _ ⟨rfl, rfl⟩
    refine Zy ?_
    refine ZP (letter_c T _) ?_
    simp only [go_sem, hlb]
    refine LV.gcall rfl rfl (by first | rfl | (simp only [go_sem, hlb]; done) | (simp only [go_sem, hlb]; rfl)) rfl rfl (by rfl) (LeH.refl _) (by first | rfl | (simp only [go_sem, hlb]; done) | (simp only [go_sem, hlb]; rfl)) (cnext_c T b s (k + 1) F L (by omega) hs) ?_
    rintro _ _ ⟨rfl, rfl⟩
    refine LV.leH (LeH.refl _) (LV.lvc ?_)
    refine Zy ?_
    refine ZQ (fun hg => digit_c T _) ?_
    refine Zy ?_
    refine hK_ _ _ ?_
    refine Zm 2062 ?_
    refine Zc (fun hc4 => ?_) fun hc4 => ?_
    ·
     have hw : wdB ((s.drop (k + 1)).headD 0) = true := by rw [hd_at, wdB, hlb]; first | rfl | (simpa using hc4)
     refine Zp 3 ?_
     refine AWp.ret ?_
     simp only [thenQ]
     apply endW_r [] [] [b] [] (by (try simp only [go_sem]) <;> rfl)
     · exact ⟨0, 3, (k + 1), numS_3 hm hw, by omega, rfl, by first | rfl | (simp only [go_sem]; done)⟩
     · simp [LeA, LeD, LeL]
    have hw : wdB ((s.drop (k + 1)).headD 0) = false := by rw [hd_at, wdB, hlb]; simpa using hc4
    refine Zk ?_
    refine Zs (AWp.rsG 1 fun K_ hK_ => ?_)
    simp only [List.take_succ_cons, List.take_zero, List.drop_succ_cons, List.drop_zero]
    refine Zy ?_
    refine LV.dw1 ?_
    refine DW.nilN rfl rfl (by first | rfl | (simp only [go_sem]; done)) (by simp only [go_sem]) ?_
    refine DW.nil ?_
    refine LV.lvc ?_
    refine Zy ?_
    (repeat (with_reducible refine And.intro ZS ?_))
    refine hK_ _ _ ?_
    refine Zm 2053 ?_
    refine Zc (fun hc5 => ?_) fun hc5 => ?_
    ·
     refine Zp 3 ?_
     refine AWp.ret ?_
     simp only [thenQ]
     apply endW_r [] [] [b] [] (by (try simp only [go_sem]) <;> rfl)
     · exact ⟨0, 6, (k + 1), numS_6 hm hw (by simp only [limN]; first | omega | (simp; omega)), by omega, rfl, by first | rfl | (simp only [go_sem]; done)⟩
     · simp [LeA, LeD, LeL]
    refine Zk ?_
    refine Zp 3 ?_
    refine AWp.ret ?_
    apply endW_r [] [] [b] [] (by (try simp only [go_sem]) <;> rfl)
    · exact ⟨_, 0, (k + 1), numS_0 hm hw (by simp only [limN]; first | omega | (simp; omega)), by omega, rfl, by first | rfl | (simp only [go_sem]; done)⟩
    · simp [LeA, LeD, LeL, mulN]
   refine Zx (Zy ?_)
   refine ZA [b] [] (cnext_c T b s (k + 1) F L (by omega) hs) ?_
   rintro _ _ ⟨rfl, rfl⟩
   refine Zy ?_
   refine ZP (letter_c T _) ?_
   simp only [go_sem, hlb]
   refine DW.skipc rfl rfl ?_
   refine Zy ?_
   refine DW.skipc rfl rfl ?_
   refine Zy ?_
   (repeat (with_reducible refine And.intro ZS ?_))
   refine Zm 2062 ?_
   refine Zc (fun hc4 => ?_) fun hc4 => ?_
   ·
    have hw : wdB ((s.drop (k + 1)).headD 0) = true := by rw [hd_at, wdB, hlb]; first | rfl | (simpa using hc4)
    refine Zp 3 ?_
    refine AWp.ret ?_
    simp only [thenQ]
    apply endW_r [] [] [b] [] (by (try simp only [go_sem]) <;> rfl)
    · exact ⟨0, 3, (k + 1), numS_3 hm hw, by omega, rfl, by first | rfl | (simp only [go_sem]; done)⟩
    · simp [LeA, LeD, LeL]
   exact absurd hc4 (by first | (simp; done) | omega | (simp [*]; done))
  have hm := nM_0 (s := s) (k := k) (by omega) (by omega)
  replace hm : numM ((s.drop i).dropWhile digB) = (0, s.drop k) := by rw [hk0]; exact hm
  refine AWp.skip (blkQ_n (thenQ_n ?_))
  refine Zs ?_
  rcases hlb : letB (s.getD k 0) with _ | _
  ·
   refine AWp.rsG 5 fun K_ hK_ => ?_
   simp only [List.take_succ_cons, List.take_zero, List.drop_succ_cons, List.drop_zero]
   refine Zy ?_
   refine ZA [b] [] (cnext_c T b s k F L (by omega) hs) ?_
   rintro _ _ ⟨rfl, rfl⟩
   refine Zy ?_
   refine ZP (letter_c T _) ?_
   simp only [go_sem, hlb]
   refine LV.gcall rfl rfl (by first | rfl | (simp only [go_sem, hlb]; done) | (simp only [go_sem, hlb]; rfl)) rfl rfl (by rfl) (LeH.refl _) (by first | rfl | (simp only [go_sem, hlb]; done) | (simp only [go_sem, hlb]; rfl)) (cnext_c T b s k F L (by omega) hs) ?_
   rintro _ _ ⟨rfl, rfl⟩
   refine LV.leH (LeH.refl _) (LV.lvc ?_)
   refine Zy ?_
   refine ZQ (fun hg => digit_c T _) ?_
   refine Zy ?_
   refine hK_ _ _ ?_
   refine Zm 4110 ?_
   refine Zc (fun hc4 => ?_) fun hc4 => ?_
   ·
    have hw : wdB ((s.drop k).headD 0) = true := by rw [hd_at, wdB, hlb]; first | rfl | (simpa using hc4)
    refine Zp 3 ?_
    refine AWp.ret ?_
    simp only [thenQ]
    apply endW_r [] [] [b] [] (by (try simp only [go_sem]) <;> rfl)
    · exact ⟨0, 3, k, numS_3 hm hw, by omega, rfl, by first | rfl | (simp only [go_sem]; done)⟩
    · simp [LeA, LeD, LeL]
   have hw : wdB ((s.drop k).headD 0) = false := by rw [hd_at, wdB, hlb]; simpa using hc4
   refine Zk ?_
   refine Zs (AWp.rsG 1 fun K_ hK_ => ?_)
   simp only [List.take_succ_cons, List.take_zero, List.drop_succ_cons, List.drop_zero]
   refine Zy ?_
   refine LV.dw1 ?_
   refine DW.nilN rfl rfl (by first | rfl | (simp only [go_sem]; done)) (by simp only [go_sem]) ?_
   refine DW.nil ?_
   refine LV.lvc ?_
   refine Zy ?_
   (repeat (with_reducible refine And.intro ZS ?_))
   refine hK_ _ _ ?_
   refine Zm 2053 ?_
   refine Zc (fun hc5 => ?_) fun hc5 => ?_
   ·
    refine Zp 3 ?_
    refine AWp.ret ?_
    simp only [thenQ]
    apply endW_r [] [] [b] [] (by (try simp only [go_sem]) <;> rfl)
    · exact ⟨0, 6, k, numS_6 hm hw (by simp only [limN]; first | omega | (simp; omega)), by omega, rfl, by first | rfl | (simp only [go_sem]; done)⟩
    · simp [LeA, LeD, LeL]
   refine Zk ?_
   refine Zp 3 ?_
   refine AWp.ret ?_
   apply endW_r [] [] [b] [] (by (try simp only [go_sem]) <;> rfl)
   · exact ⟨_, 0, k, numS_0 hm hw (by simp only [limN]; first | omega | (simp; omega)), by omega, rfl, by first | rfl | (simp only [go_sem]; done)⟩
   · simp [LeA, LeD, LeL, mulN]
  refine Zx (Zy ?_)
  refine ZA [b] [] (cnext_c T b s k F L (by omega) hs) ?_
  rintro _ _ ⟨rfl, rfl⟩
  refine Zy ?_
  refine ZP (letter_c T _) ?_
  simp only [go_sem, hlb]
  refine DW.skipc rfl rfl ?_
  refine Zy ?_
  refine DW.skipc rfl rfl ?_
  refine Zy ?_
  (repeat (with_reducible refine And.intro ZS ?_))
  refine Zm 4110 ?_
  refine Zc (fun hc4 => ?_) fun hc4 => ?_
  ·
   have hw : wdB ((s.drop k).headD 0) = true := by rw [hd_at, wdB, hlb]; first | rfl | (simpa using hc4)
   refine Zp 3 ?_
   refine AWp.ret ?_
   simp only [thenQ]
   apply endW_r [] [] [b] [] (by (try simp only [go_sem]) <;> rfl)
   · exact ⟨0, 3, k, numS_3 hm hw, by omega, rfl, by first | rfl | (simp only [go_sem]; done)⟩
   · simp [LeA, LeD, LeL]
  exact absurd hc4 (by first | (simp; done) | omega | (simp [*]; done))
 refine Zx (Zy ?_)
 refine ZP (atoi_hi T hE _ hD hD0 hDl hv) ?_
 refine Zy ?_
 refine Zm 13 ?_
 refine Zp 15 ?_
 refine Zs (Zx (Zy ?_))
 refine ZA [b] [] (cnext_c T b s k F L (by omega) hs) ?_
 rintro _ _ ⟨rfl, rfl⟩
 refine Zy ?_
 refine AWp.block (Zs (Zp 111 ?_))
 refine Zy ?_
 apply Za (z := (_ || _)) 31 17
 ·
  refine AWp.cond _ rfl (fun hc0 => ?_) fun hc0 => ?_
  rotate_left
  ·
   refine Zr (thenQ_n ?_)
   refine Zf 31 32 (.e ⟨EqS.bo (or_f hc0 rfl), ⟨rfl⟩⟩)
  refine AWp.skip (thenQ_n ?_)
  refine Zf 31 32 (.e ⟨EqS.bo (or_t hc0), ⟨rfl⟩⟩)
 refine Zy ?_
 refine Zc (fun hc1 => ?_) fun hc1 => ?_
 ·
  have hm := nM_10 hc1
  rw [← hk0] at hm
  have hkl : k < s.length := get_lt (by omega)
  refine Zp 15 ?_
  refine Zr (blkQ_n (thenQ_n ?_))
  refine Zm 15 ?_
  refine Zs ?_
  rcases hlb : letB (s.getD (k + 1) 0) with _ | _
  ·
   refine AWp.rsG 5 fun K_ hK_ => ?_
   simp only [List.take_succ_cons, List.take_zero, List.drop_succ_cons, List.drop_zero]
   refine Zy ?_
   refine ZA [b] [] (cnext_c T b s (k + 1) F L (by omega) hs) ?_
   rintro _ _ ⟨rfl, rfl⟩
   refine Zy ?_
   refine ZP (letter_c T _) ?_
   simp only [go_sem, hlb]
   refine LV.gcall rfl rfl (by first | rfl | (simp only [go_sem, hlb]; done) | (simp only [go_sem, hlb]; rfl)) rfl rfl (by rfl) (LeH.refl _) (by first | rfl | (simp only [go_sem, hlb]; done) | (simp only [go_sem, hlb]; rfl)) (cnext_c T b s (k + 1) F L (by omega) hs) ?_
   rintro _ _ ⟨rfl, rfl⟩
   refine LV.leH (LeH.refl _) (LV.lvc ?_)
   refine Zy ?_
   refine ZQ (fun hg => digit_c T _) ?_
   refine Zy ?_
   refine hK_ _ _ ?_
   refine Zm 2062 ?_
   refine Zc (fun hc4 => ?_) fun hc4 => ?_
   ·
    have hw : wdB ((s.drop (k + 1)).headD 0) = true := by rw [hd_at, wdB, hlb]; first | rfl | (simpa using hc4)
    refine Zp 3 ?_
    refine AWp.ret ?_
    simp only [thenQ]
    apply endW_r [] [] [b] [] (by (try simp only [go_sem]) <;> rfl)
    · exact ⟨0, 3, (k + 1), numS_3 hm hw, by omega, rfl, by first | rfl | (simp only [go_sem]; done)⟩
    · simp [LeA, LeD, LeL]
   have hw : wdB ((s.drop (k + 1)).headD 0) = false := by rw [hd_at, wdB, hlb]; simpa using hc4
   refine Zk ?_
   refine Zs (Zp 2053 ?_)
   refine Zc (fun hc5 => ?_) fun hc5 => ?_
   ·
    refine Zp 3 ?_
    refine AWp.ret ?_
    simp only [thenQ]
    apply endW_r [] [] [b] [] (by (try simp only [go_sem]) <;> rfl)
    · exact ⟨0, 6, (k + 1), numS_6 hm hw (by simp only [limN]; first | omega | (simp; omega)), by omega, rfl, by first | rfl | (simp only [go_sem]; done)⟩
    · simp [LeA, LeD, LeL]
   exact absurd hc5 (by first | (simp; done) | omega | (simp [*]; done))
  refine Zx (Zy ?_)
  refine ZA [b] [] (cnext_c T b s (k + 1) F L (by omega) hs) ?_
  rintro _ _ ⟨rfl, rfl⟩
  refine Zy ?_
  refine ZP (letter_c T _) ?_
  simp only [go_sem, hlb]
  refine DW.skipc rfl rfl ?_
  refine Zy ?_
  refine DW.skipc rfl rfl ?_
  refine Zy ?_
  (repeat (with_reducible refine And.intro ZS ?_))
  refine Zm 2062 ?_
  refine Zc (fun hc4 => ?_) fun hc4 => ?_
  ·
   have hw : wdB ((s.drop (k + 1)).headD 0) = true := by rw [hd_at, wdB, hlb]; first | rfl | (simpa using hc4)
   refine Zp 3 ?_
   refine AWp.ret ?_
   simp only [thenQ]
   apply endW_r [] [] [b] [] (by (try simp only [go_sem]) <;> rfl)
   · exact ⟨0, 3, (k + 1), numS_3 hm hw, by omega, rfl, by first | rfl | (simp only [go_sem]; done)⟩
   · simp [LeA, LeD, LeL]
  exact absurd hc4 (by first | (simp; done) | omega | (simp [*]; done))
 refine Zs (Zp 95 ?_)
 refine Zy ?_
 apply Za (z := (_ || _)) 15 27
 ·
  refine AWp.cond _ rfl (fun hc2 => ?_) fun hc2 => ?_
  rotate_left
  ·
   refine Zr (thenQ_n ?_)
   refine Zf 15 32 (.e ⟨EqS.bo (or_f hc2 rfl), ⟨rfl⟩⟩)
  refine AWp.skip (thenQ_n ?_)
  refine Zf 15 32 (.e ⟨EqS.bo (or_t hc2), ⟨rfl⟩⟩)
 refine Zy ?_
 refine Zc (fun hc3 => ?_) fun hc3 => ?_
 ·
  have hm := nM_20 (by omega) hc3
  rw [← hk0] at hm
  have hkl : k < s.length := get_lt (by omega)
  refine Zp 15 ?_
  refine Zr (blkQ_n (thenQ_n ?_))
  refine Zm 15 ?_
  refine Zs ?_
  rcases hlb : letB (s.getD (k + 1) 0) with _ | _
  ·
   refine AWp.rsG 5 fun K_ hK_ => ?_
   simp only [List.take_succ_cons, List.take_zero, List.drop_succ_cons, List.drop_zero]
   refine Zy ?_
   refine ZA [b] [] (cnext_c T b s (k + 1) F L (by omega) hs) ?_
   rintro _ _ ⟨rfl, rfl⟩
   refine Zy ?_
   refine ZP (letter_c T _) ?_
   simp only [go_sem, hlb]
   refine LV.gcall rfl rfl (by first | rfl | (simp only [go_sem, hlb]; done) | (simp only [go_sem, hlb]; rfl)) rfl rfl (by rfl) (LeH.refl _) (by first | rfl | (simp only [go_sem, hlb]; done) | (simp only [go_sem, hlb]; rfl)) (cnext_c T b s (k + 1) F L (by omega) hs) ?_
   rintro _ _ ⟨rfl, rfl⟩
   refine LV.leH (LeH.refl _) (LV.lvc ?_)
   refine Zy ?_
   refine ZQ (fun hg => digit_c T _) ?_
   refine Zy ?_
   refine hK_ _ _ ?_
   refine Zm 2062 ?_
   refine Zc (fun hc4 => ?_) fun hc4 => ?_
   ·
    have hw : wdB ((s.drop (k + 1)).headD 0) = true := by rw [hd_at, wdB, hlb]; first | rfl | (simpa using hc4)
    refine Zp 3 ?_
    refine AWp.ret ?_
    simp only [thenQ]
    apply endW_r [] [] [b] [] (by (try simp only [go_sem]) <;> rfl)
    · exact ⟨0, 3, (k + 1), numS_3 hm hw, by omega, rfl, by first | rfl | (simp only [go_sem]; done)⟩
    · simp [LeA, LeD, LeL]
   have hw : wdB ((s.drop (k + 1)).headD 0) = false := by rw [hd_at, wdB, hlb]; simpa using hc4
   refine Zk ?_
   refine Zs (Zp 2053 ?_)
   refine Zc (fun hc5 => ?_) fun hc5 => ?_
   ·
    refine Zp 3 ?_
    refine AWp.ret ?_
    simp only [thenQ]
    apply endW_r [] [] [b] [] (by (try simp only [go_sem]) <;> rfl)
    · exact ⟨0, 6, (k + 1), numS_6 hm hw (by simp only [limN]; first | omega | (simp; omega)), by omega, rfl, by first | rfl | (simp only [go_sem]; done)⟩
    · simp [LeA, LeD, LeL]
   exact absurd hc5 (by first | (simp; done) | omega | (simp [*]; done))
  refine Zx (Zy ?_)
  refine ZA [b] [] (cnext_c T b s (k + 1) F L (by omega) hs) ?_
  rintro _ _ ⟨rfl, rfl⟩
  refine Zy ?_
  refine ZP (letter_c T _) ?_
  simp only [go_sem, hlb]
  refine DW.skipc rfl rfl ?_
  refine Zy ?_
  refine DW.skipc rfl rfl ?_
  refine Zy ?_
  (repeat (with_reducible refine And.intro ZS ?_))
  refine Zm 2062 ?_
  refine Zc (fun hc4 => ?_) fun hc4 => ?_
  ·
   have hw : wdB ((s.drop (k + 1)).headD 0) = true := by rw [hd_at, wdB, hlb]; first | rfl | (simpa using hc4)
   refine Zp 3 ?_
   refine AWp.ret ?_
   simp only [thenQ]
   apply endW_r [] [] [b] [] (by (try simp only [go_sem]) <;> rfl)
   · exact ⟨0, 3, (k + 1), numS_3 hm hw, by omega, rfl, by first | rfl | (simp only [go_sem]; done)⟩
   · simp [LeA, LeD, LeL]
  exact absurd hc4 (by first | (simp; done) | omega | (simp [*]; done))
 have hm := nM_0 (s := s) (k := k) (by omega) (by omega)
 replace hm : numM ((s.drop i).dropWhile digB) = (0, s.drop k) := by rw [hk0]; exact hm
 refine AWp.skip (blkQ_n (thenQ_n ?_))
 refine Zs ?_
 rcases hlb : letB (s.getD k 0) with _ | _
 ·
  refine AWp.rsG 5 fun K_ hK_ => ?_
  simp only [List.take_succ_cons, List.take_zero, List.drop_succ_cons, List.drop_zero]
  refine Zy ?_
  refine ZA [b] [] (cnext_c T b s k F L (by omega) hs) ?_
  rintro _ _ ⟨rfl, rfl⟩
  refine Zy ?_
  refine ZP (letter_c T _) ?_
  simp only [go_sem, hlb]
  refine LV.gcall rfl rfl (by first | rfl | (simp only [go_sem, hlb]; done) | (simp only [go_sem, hlb]; rfl)) rfl rfl (by rfl) (LeH.refl _) (by first | rfl | (simp only [go_sem, hlb]; done) | (simp only [go_sem, hlb]; rfl)) (cnext_c T b s k F L (by omega) hs) ?_
  rintro _ _ ⟨rfl, rfl⟩
  refine LV.leH (LeH.refl _) (LV.lvc ?_)
  refine Zy ?_
  refine ZQ (fun hg => digit_c T _) ?_
  refine Zy ?_
  refine hK_ _ _ ?_
  refine Zm 4110 ?_
  refine Zc (fun hc4 => ?_) fun hc4 => ?_
  ·
   have hw : wdB ((s.drop k).headD 0) = true := by rw [hd_at, wdB, hlb]; first | rfl | (simpa using hc4)
   refine Zp 3 ?_
   refine AWp.ret ?_
   simp only [thenQ]
   apply endW_r [] [] [b] [] (by (try simp only [go_sem]) <;> rfl)
   · exact ⟨0, 3, k, numS_3 hm hw, by omega, rfl, by first | rfl | (simp only [go_sem]; done)⟩
   · simp [LeA, LeD, LeL]
  have hw : wdB ((s.drop k).headD 0) = false := by rw [hd_at, wdB, hlb]; simpa using hc4
  refine Zk ?_
  refine Zs (Zp 2053 ?_)
  refine Zc (fun hc5 => ?_) fun hc5 => ?_
  ·
   refine Zp 3 ?_
   refine AWp.ret ?_
   simp only [thenQ]
   apply endW_r [] [] [b] [] (by (try simp only [go_sem]) <;> rfl)
   · exact ⟨0, 6, k, numS_6 hm hw (by simp only [limN]; first | omega | (simp; omega)), by omega, rfl, by first | rfl | (simp only [go_sem]; done)⟩
   · simp [LeA, LeD, LeL]
  exact absurd hc5 (by first | (simp; done) | omega | (simp [*]; done))
 refine Zx (Zy ?_)
 refine ZA [b] [] (cnext_c T b s k F L (by omega) hs) ?_
 rintro _ _ ⟨rfl, rfl⟩
 refine Zy ?_
 refine ZP (letter_c T _) ?_
 simp only [go_sem, hlb]
 refine DW.skipc rfl rfl ?_
 refine Zy ?_
 refine DW.skipc rfl rfl ?_
 refine Zy ?_
 (repeat (with_reducible refine And.intro ZS ?_))
 refine Zm 4110 ?_
 refine Zc (fun hc4 => ?_) fun hc4 => ?_
 ·
  have hw : wdB ((s.drop k).headD 0) = true := by rw [hd_at, wdB, hlb]; first | rfl | (simpa using hc4)
  refine Zp 3 ?_
  refine AWp.ret ?_
  simp only [thenQ]
  apply endW_r [] [] [b] [] (by (try simp only [go_sem]) <;> rfl)
  · exact ⟨0, 3, k, numS_3 hm hw, by omega, rfl, by first | rfl | (simp only [go_sem]; done)⟩
  · simp [LeA, LeD, LeL]
 exact absurd hc4 (by first | (simp; done) | omega | (simp [*]; done))
end
section
theorem iB_mem : ∀ (l : Tx) (c : UInt8), -1 ≤ Lib.indexByte l c ∧ (0 ≤ Lib.indexByte l c ↔ c ∈ l)
 | [], c => by simp [Lib.indexByte]
 | x :: l, c => by
  obtain ⟨h1, h2⟩ := iB_mem l c
  unfold Lib.indexByte
  rw [List.mem_cons]
  split
  ·rename_i h
   have : c = x := by simpa using (beq_iff_eq.1 h).symm
   simp [this]
  ·rename_i h
   have hne : ¬ c = x := fun e => h (by rw [e]; simp)
   split
   ·rename_i h3
    have h3 : Lib.indexByte l c = -1 := by simpa using h3
    simp only [hne, false_or, ← h2]
    omega
   ·rename_i h3
    have h3 : ¬ Lib.indexByte l c = -1 := by simpa using h3
    simp only [hne, false_or, ← h2]
    omega
theorem mk_mem (c : UInt8) : c ∈ ([123, 125, 40, 41, 91, 93, 59, 44] : Tx) ↔ mkB c = true := by
 constructor
 ·intro h
  simp only [List.mem_cons, List.not_mem_nil, or_false] at h
  rcases h with rfl | rfl | rfl | rfl | rfl | rfl | rfl | rfl <;> decide
 ·intro h
  simp only [mkB, Bool.or_eq_true, decide_eq_true_eq] at h
  rcases h with ((((((h | h) | h) | h) | h) | h) | h) | h
  ·rw [u8_is (n := 123) h (by decide)]; decide
  ·rw [u8_is (n := 125) h (by decide)]; decide
  ·rw [u8_is (n := 40) h (by decide)]; decide
  ·rw [u8_is (n := 41) h (by decide)]; decide
  ·rw [u8_is (n := 91) h (by decide)]; decide
  ·rw [u8_is (n := 93) h (by decide)]; decide
  ·rw [u8_is (n := 59) h (by decide)]; decide
  ·rw [u8_is (n := 44) h (by decide)]; decide
theorem mk_ix (c : UInt8) : 0 ≤ Lib.indexByte [123, 125, 40, 41, 91, 93, 59, 44] c ↔ mkB c = true := (iB_mem _ c).2.trans (mk_mem c)
def zTk : Tk := ⟨0, [], 0⟩
def tokS (l : Tx) : Tk × Int × Tx :=
 if letB (l.headD 0) = true then (⟨1, l.takeWhile wdB, 0⟩, 0, l.dropWhile wdB)
 else if (l.headD 0).toNat = 58 then (if letB ((l.drop 1).headD 0) = true then (⟨2, (l.drop 1).takeWhile wdB, 0⟩, 0, (l.drop 1).dropWhile wdB) else (zTk, 3, []))
 else if digB (l.headD 0) = true then (if (numS l).2.1 = 0 then (⟨3, [], (numS l).1⟩, 0, (numS l).2.2) else (⟨3, [], 0⟩, (numS l).2.1, []))
 else if (l.headD 0).toNat = 34 then (match quoT (l.drop 1) with
  | none => (zTk, 4, [])
  | some p => (⟨4, p.1, 0⟩, 0, p.2))
 else if mkB (l.headD 0) = true then (⟨5, [l.headD 0], 0⟩, 0, l.drop 1) else (zTk, 3, [])
section
variable {s : Tx} {i : Nat}
theorem tk_w (h : letB (s.getD i 0) = true) : tokS (s.drop i) = (⟨1, (s.drop i).takeWhile wdB, 0⟩, 0, s.drop (i + ((s.drop i).takeWhile wdB).length)) := by rw [tokS, hd_at, if_pos h, dw_at]
theorem tk_t (h : ¬ letB (s.getD i 0) = true) (h1 : (s.getD i 0).toNat = 58) (h2 : letB (s.getD (i + 1) 0) = true) : tokS (s.drop i) = (⟨2, (s.drop (i + 1)).takeWhile wdB, 0⟩, 0, s.drop (i + 1 + ((s.drop (i + 1)).takeWhile wdB).length)) := by rw [tokS, hd_at, if_neg h, if_pos h1, List.drop_drop, hd_at, if_pos h2, dw_at]
theorem tk_t3 (h : ¬ letB (s.getD i 0) = true) (h1 : (s.getD i 0).toNat = 58) (h2 : ¬ letB (s.getD (i + 1) 0) = true) : tokS (s.drop i) = (zTk, 3, []) := by rw [tokS, hd_at, if_neg h, if_pos h1, List.drop_drop, hd_at, if_neg h2]
theorem tk_n (h : ¬ letB (s.getD i 0) = true) (h1 : ¬ (s.getD i 0).toNat = 58) (h2 : digB (s.getD i 0) = true) : tokS (s.drop i) = if (numS (s.drop i)).2.1 = 0 then (⟨3, [], (numS (s.drop i)).1⟩, 0, (numS (s.drop i)).2.2) else (⟨3, [], 0⟩, (numS (s.drop i)).2.1, []) := by rw [tokS, hd_at, if_neg h, if_neg h1, if_pos h2]
theorem tk_q (h : ¬ letB (s.getD i 0) = true) (h1 : ¬ (s.getD i 0).toNat = 58) (h2 : ¬ digB (s.getD i 0) = true) (h3 : (s.getD i 0).toNat = 34) : tokS (s.drop i) = match quoT (s.drop (i + 1)) with
    | none => (zTk, 4, [])
    | some p => (⟨4, p.1, 0⟩, 0, p.2) := by rw [tokS, hd_at, if_neg h, if_neg h1, if_neg h2, if_pos h3, List.drop_drop]
theorem tk_m (h : ¬ letB (s.getD i 0) = true) (h1 : ¬ (s.getD i 0).toNat = 58) (h2 : ¬ digB (s.getD i 0) = true) (h3 : ¬ (s.getD i 0).toNat = 34) (h4 : mkB (s.getD i 0) = true) : tokS (s.drop i) = (⟨5, [s.getD i 0], 0⟩, 0, s.drop (i + 1)) := by rw [tokS, hd_at, if_neg h, if_neg h1, if_neg h2, if_neg h3, if_pos h4, List.drop_drop]
theorem tk_o (h : ¬ letB (s.getD i 0) = true) (h1 : ¬ (s.getD i 0).toNat = 58) (h2 : ¬ digB (s.getD i 0) = true) (h3 : ¬ (s.getD i 0).toNat = 34) (h4 : ¬ mkB (s.getD i 0) = true) : tokS (s.drop i) = (zTk, 3, []) := by rw [tokS, hd_at, if_neg h, if_neg h1, if_neg h2, if_neg h3, if_neg h4]
end
def TkR1 (b : Nat) (s : Tx) (i : Nat) (F : List (Nat × Ob)) (L : List Nat) (x : AR) (h : AH) : Prop :=
 ∃ (t : Tk) (e : Int) (j : Nat), (e = 0 → tokS (s.drop i) = (t, 0, s.drop j)) ∧ (¬ e = 0 → (tokS (s.drop i)).2.1 = e) ∧ j ≤ s.length ∧ x = .ret (.tup [.agg (tkA t), .d (.int .i64 e)]) ∧ h = ⟨(b, ⟨2, 1, [[.d (.str s), .d (.int .i64 ((j : Nat) : Int))]]⟩) :: F, L⟩
theorem nl_n {s : Tx} {i : Nat} (h : letB (s.getD i 0) = false) : ¬ letB (s.getD i 0) = true := by rw [h]; decide
theorem nd_n {s : Tx} {i : Nat} (h : digB (s.getD i 0) = false) : ¬ digB (s.getD i 0) = true := by rw [h]; decide
attribute [local go_sem] icast8 brOne bytesOf_byteRows in
theorem one_c (T : Tbl) (hE : ErT T) (b : Nat) (s : Tx) (i : Nat) (F : List (Nat × Ob)) (L : List Nat) (hi : i < s.length) (hs : s.length ≤ 1048576) : AC Tryz.prog T 104 [.ptr b 2 0 0] (⟨(b, ⟨2, 1, [[.d (.str s), .d (.int .i64 ((i : Nat) : Int))]]⟩) :: F, L⟩) (TkR1 b s i F L) := by
 refine ⟨Tryz.call104, ACalls.enterS Tryz.func104 rfl Tryz.ntmps104 rfl fun hb => ?_⟩
 simp only [go_sem, Tryz.results104]
 refine Zx (Zy ?_)
 intro b2
 first | intro fb2 | have fb2 := True.intro
 try simp only [freshL] at fb2
 refine Zs (Zx (Zy ?_))
 refine ZA [b] [] (cnext_c T b s i _ _ (by omega) hs) ?_
 rintro _ _ ⟨rfl, rfl⟩
 refine Zy ?_
 refine AWp.block (Zx (Zy ?_))
 refine ZP (letter_c T _) ?_
 refine Zy ?_
 refine Zm 75 ?_
 refine Zc (fun hc0 => ?_) fun hc0 => ?_
 ·
  refine Zx (Zy ?_)
  refine ZA [b] [] (cword_c T b s i _ _ (by omega) hs) ?_
  rintro _ _ ⟨rfl, rfl⟩
  simp only [go_sem, fb2]
  refine Zm 6 ?_
  refine AWp.ret ?_
  simp only [thenQ, blkQ]
  apply endW_r [b2] [] [b] [] (by (try simp only [go_sem, fb2]) <;> rfl)
  · exact ⟨⟨1, _, 0⟩, 0, _, fun _ => tk_w hc0, fun h9 => absurd rfl h9, by have := tw_len wdB s i (by omega); have := tw_len wdB s (i + 1); omega, rfl, by first | rfl | (simp only [go_sem, fb2]; done)⟩
  · simp [LeA, LeD, LeL, tkA]
 refine Zp 23 ?_
 refine Zc (fun hc1 => ?_) fun hc1 => ?_
 ·
  have hlt : i + 1 ≤ s.length := by omega
  refine Zp 3 ?_
  refine Zs (Zx (Zy ?_))
  refine ZA [b] [] (cnext_c T b s (i + 1) _ _ (by omega) hs) ?_
  rintro _ _ ⟨rfl, rfl⟩
  refine Zy ?_
  refine ZP (letter_c T _) ?_
  refine Zy ?_
  refine Zc (fun hc2 => ?_) fun hc2 => ?_
  ·
   refine Zp 6 ?_
   refine AWp.ret ?_
   simp only [thenQ, blkQ]
   apply endW_r [b2] [] [b] [] (by (try simp only [go_sem, fb2]) <;> rfl)
   · exact ⟨zTk, 3, (i + 1), fun h9 => absurd h9 (by first | decide | exact hc4), fun _ => by rw [tk_t3 (nl_n hc0) (by omega) (by simpa using hc2)], by have := tw_len wdB s i (by omega); have := tw_len wdB s (i + 1); omega, rfl, by first | rfl | (simp only [go_sem, fb2]; done)⟩
   · simp [LeA, LeD, LeL, tkA, zTk]
  refine Zk ?_
  refine Zm 3 ?_
  refine Zx (Zy ?_)
  refine ZA [b] [] (cword_c T b s (i + 1) _ _ (by omega) hs) ?_
  rintro _ _ ⟨rfl, rfl⟩
  simp only [go_sem, fb2]
  refine Zm 6 ?_
  refine AWp.ret ?_
  simp only [thenQ, blkQ]
  apply endW_r [b2] [] [b] [] (by (try simp only [go_sem, fb2]) <;> rfl)
  · exact ⟨⟨2, _, 0⟩, 0, _, fun _ => tk_t (nl_n hc0) (by omega) (by simpa using hc2), fun h9 => absurd rfl h9, by have := tw_len wdB s i (by omega); have := tw_len wdB s (i + 1); omega, rfl, by first | rfl | (simp only [go_sem, fb2]; done)⟩
  · simp [LeA, LeD, LeL, tkA]
 refine Zx (Zy ?_)
 refine ZP (digit_c T _) ?_
 refine Zy ?_
 refine Zc (fun hc3 => ?_) fun hc3 => ?_
 ·
  refine Zx (Zy ?_)
  refine ZA [b] [] (cnum_c T hE b s i _ _ (by omega) hs hc3) ?_
  rintro _ _ ⟨nv, ne, nj, n1, n2, rfl, rfl⟩
  refine Zy ?_
  refine Zm 26 ?_
  refine Zs (Zp 23 ?_)
  refine Zc (fun hc4 => ?_) fun hc4 => ?_
  ·
   refine Zp 3 ?_
   refine AWp.ret ?_
   simp only [thenQ, blkQ]
   apply endW_r [b2] [] [b] [] (by (try simp only [go_sem, fb2]) <;> rfl)
   · exact ⟨zTk, ne, nj, fun h9 => absurd h9 hc4, fun _ => by rw [tk_n (nl_n hc0) (by omega) hc3, n1, if_neg hc4], by have := tw_len wdB s i (by omega); have := tw_len wdB s (i + 1); omega, rfl, by first | rfl | (simp only [go_sem, fb2]; done)⟩
   · simp [LeA, LeD, LeL, tkA, zTk]
  refine Zk ?_
  refine Zp 3 ?_
  refine AWp.ret ?_
  simp only [thenQ, blkQ]
  apply endW_r [b2] [] [b] [] (by (try simp only [go_sem, fb2]) <;> rfl)
  · exact ⟨⟨3, [], nv⟩, 0, nj, fun _ => by rw [tk_n (nl_n hc0) (by omega) hc3, n1, if_pos (by omega)], fun h9 => absurd rfl h9, by have := tw_len wdB s i (by omega); have := tw_len wdB s (i + 1); omega, rfl, by first | rfl | (simp only [go_sem, fb2]; done)⟩
  · simp [LeA, LeD, LeL, tkA]
 refine Zp 135 ?_
 refine Zc (fun hc5 => ?_) fun hc5 => ?_
 ·
  rcases hq : quoT (s.drop (i + 1)) with _ | ⟨qt, qr⟩
  ·
   refine Zx (Zy ?_)
   refine ZA [b] [] (ctext_c T b s i _ _ (by omega) hs) ?_
   rintro _ _ (⟨xt, xj, xw, x1, x2, x3, rfl, rfl⟩ | ⟨xj, x1, x2, rfl, rfl⟩)
   · rw [hq] at x1; cases x1
   refine Zy ?_
   refine Zm 26 ?_
   refine Zs (Zp 19 ?_)
   refine Zc (fun hc6 => ?_) fun hc6 => ?_
   ·
    refine Zp 3 ?_
    refine AWp.ret ?_
    simp only [thenQ, blkQ]
    apply endW_r [b2] [] [b] [] (by (try simp only [go_sem, fb2]) <;> rfl)
    · exact ⟨zTk, 4, xj, fun h9 => absurd h9 (by first | decide | exact hc4), fun _ => by rw [tk_q (nl_n hc0) (by omega) (nd_n hc3) (by omega), hq], by have := tw_len wdB s i (by omega); have := tw_len wdB s (i + 1); omega, rfl, by first | rfl | (simp only [go_sem, fb2]; done)⟩
    · simp [LeA, LeD, LeL, tkA, zTk]
   exact absurd hc6 (by first | (simp; done) | omega | (simp [*]; done))
  refine Zx (Zy ?_)
  refine ZA [b] [] (ctext_c T b s i _ _ (by omega) hs) ?_
  rintro _ _ (⟨xt, xj, xw, x1, x2, x3, rfl, rfl⟩ | ⟨xj, x1, x2, rfl, rfl⟩)
  rotate_left
  · rw [hq] at x1; cases x1
  refine Zy ?_
  refine Zm 26 ?_
  refine Zs (Zp 19 ?_)
  refine Zc (fun hc6 => ?_) fun hc6 => ?_
  ·
   exact absurd hc6 (by first | (simp; done) | omega | (simp [*]; done))
  refine Zk ?_
  refine Zp 3 ?_
  refine AWp.ret ?_
  simp only [thenQ, blkQ]
  apply endW_r [b2] [] [b] [] (by (try simp only [go_sem, fb2]) <;> rfl)
  · exact ⟨⟨4, xt, 0⟩, 0, xj, fun _ => by rw [tk_q (nl_n hc0) (by omega) (nd_n hc3) (by omega), x1], fun h9 => absurd rfl h9, by have := tw_len wdB s i (by omega); have := tw_len wdB s (i + 1); omega, rfl, by first | rfl | (simp only [go_sem, fb2]; done)⟩
  · simp [LeA, LeD, LeL, tkA]
 refine Zx (Zy ?_)
 refine ZP (IndexByte_p T _ _) ?_
 refine Zy ?_
 refine Zm 23 ?_
 refine Zc (fun hc7 => ?_) fun hc7 => ?_
 ·
  have hmk := (mk_ix _).1 hc7
  refine Zp 6 ?_
  refine Zp 3 ?_
  refine AWp.ret ?_
  simp only [thenQ, blkQ]
  apply endW_r [b2] [] [b] [] (by (try simp only [go_sem, fb2]) <;> rfl)
  · exact ⟨⟨5, [s.getD i 0], 0⟩, 0, (i + 1), fun _ => tk_m (nl_n hc0) (by omega) (nd_n hc3) (by omega) hmk, fun h9 => absurd rfl h9, by have := tw_len wdB s i (by omega); have := tw_len wdB s (i + 1); omega, rfl, by first | rfl | (simp only [go_sem, fb2]; done)⟩
  · simp [LeA, LeD, LeL, tkA]
 have hmk : ¬ mkB (s.getD i 0) = true := fun h9 => by have := (mk_ix _).2 h9; omega
 refine AWp.skip (blkQ_n (thenQ_n ?_))
 refine Zp 6 ?_
 refine AWp.ret ?_
 apply endW_r [b2] [] [b] [] (by (try simp only [go_sem, fb2]) <;> rfl)
 · exact ⟨zTk, 3, i, fun h9 => absurd h9 (by first | decide | exact hc4), fun _ => by rw [tk_o (nl_n hc0) (by omega) (nd_n hc3) (by omega) hmk], by have := tw_len wdB s i (by omega); have := tw_len wdB s (i + 1); omega, rfl, by first | rfl | (simp only [go_sem, fb2]; done)⟩
 · simp [LeA, LeD, LeL, tkA, zTk]
end
section
def cutF (s : Tx) : Nat → List Tk → Nat → List Tk × Int × Int
 | 0, _, _ => ([], 0, 0)
 | n + 1, X, i => if okP s i = false then ([], (plS s i : Int), 4) else if plS s i = s.length then (X, 0, 0) else if X.length = 400 then ([], (plS s i : Int), 5)
  else if ¬ (tokS (s.drop (plS s i))).2.1 = 0 then ([], (plS s i : Int), (tokS (s.drop (plS s i))).2.1) else cutF s n (X ++ [(tokS (s.drop (plS s i))).1]) (s.length - (tokS (s.drop (plS s i))).2.2.length)
def cutS (s : Tx) : List Tk × Int × Int := if 2000 < s.length then ([], 0, 1) else cutF s 401 [] 0
section
variable {s : Tx} {X : List Tk} {j k : Nat}
theorem cu_eq (hX : X.length ≤ 400) : cutF s (401 - X.length) X j = if okP s j = false then ([], (plS s j : Int), 4) else if plS s j = s.length then (X, 0, 0) else if X.length = 400 then ([], (plS s j : Int), 5)
  else if ¬ (tokS (s.drop (plS s j))).2.1 = 0 then ([], (plS s j : Int), (tokS (s.drop (plS s j))).2.1) else cutF s (400 - X.length) (X ++ [(tokS (s.drop (plS s j))).1]) (s.length - (tokS (s.drop (plS s j))).2.2.length) := by
 rw [show 401 - X.length = (400 - X.length) + 1 by omega, cutF]
theorem cu_4 (hX : X.length ≤ 400) (p1 : plS s j = k) (p2 : okP s j = false) : cutF s (401 - X.length) X j = ([], (k : Int), 4) := by rw [cu_eq hX, if_pos p2, p1]
theorem cu_0 (hX : X.length ≤ 400) (p1 : plS s j = k) (p2 : okP s j = true) (h : k = s.length) : cutF s (401 - X.length) X j = (X, 0, 0) := by rw [cu_eq hX, if_neg (by rw [p2]; decide), if_pos (p1.trans h)]
theorem cu_5 (hX : X.length ≤ 400) (p1 : plS s j = k) (p2 : okP s j = true) (h : ¬ k = s.length) (h2 : X.length = 400) : cutF s (401 - X.length) X j = ([], (k : Int), 5) := by rw [cu_eq hX, if_neg (by rw [p2]; decide), if_neg (by omega), if_pos h2, p1]
theorem cu_e (hX : X.length ≤ 400) (p1 : plS s j = k) (p2 : okP s j = true) (h : ¬ k = s.length) (h2 : ¬ X.length = 400) {e : Int} (he : ¬ e = 0) (ht : (tokS (s.drop k)).2.1 = e) : cutF s (401 - X.length) X j = ([], (k : Int), e) := by rw [cu_eq hX, if_neg (by rw [p2]; decide), if_neg (by omega), if_neg h2, p1, ht, if_pos he]
theorem cu_s (hX : X.length ≤ 400) (p1 : plS s j = k) (p2 : okP s j = true) (h : ¬ k = s.length) (h2 : ¬ X.length = 400) {t : Tk} {q : Nat} (ht : tokS (s.drop k) = (t, 0, s.drop q)) (hq : q ≤ s.length) : cutF s (401 - X.length) X j = cutF s (401 - (X ++ [t]).length) (X ++ [t]) q := by
 rw [cu_eq hX, if_neg (by rw [p2]; decide), if_neg (by omega), if_neg h2, p1, ht, if_neg (by simp)]
 rw [show s.length - (s.drop q).length = q by simp; omega, List.length_append, show 401 - (X.length + [t].length) = 400 - X.length by simp only [List.length_cons, List.length_nil]; omega]
end
theorem tkRows (X : List Tk) (t : Tk) : tksD X ++ [tkD t] = tksD (X ++ [t]) := by simp [tksD]
attribute [local go_sem] icast8 tkA tkD tkRows in
theorem Cut_c (T : Tbl) (hL : LibT T) (hE : ErT T) (s : Tx) : PC Tryz.prog T 52 [.d (.str s)] (.tup [.d (.slc 3 (tksD (cutS s).1)), .d (.int .i64 (cutS s).2.1), .d (.int .i64 (cutS s).2.2)]) := by
 refine ⟨Tryz.call52, PCall.enterS Tryz.func52 rfl Tryz.ntmps52 rfl fun hb => ?_⟩
 simp only [go_sem, Tryz.results52]
 refine Zp 1 ?_
 refine Zs (Zp 9 ?_)
 refine Zc (fun hc0 => ?_) fun hc0 => ?_
 ·
  refine Zp 14 ?_
  refine AWp.ret ?_
  simp only [go_sem]
  rw [cutS, if_pos (by omega)]; simp [tksD]
 have hs : s.length ≤ 1048576 := by omega
 refine Zk ?_
 refine Zp 3 ?_
 refine Zx (Zy ?_)
 intro b6
 first | intro fb6 | have fb6 := True.intro
 try simp only [freshL] at fb6
 refine AWp.block (Zn 7 ?_)
 refine AWp.ownNilS 5 3 rfl rfl (by decide) fun w0 fw0 => ?_
 try simp only [freshT] at fw0
 refine Zy ?_
 refine Zl 5 2 (fun n lc hc => ∃ (j w : Nat) (X : List Tk), n = 401 - X.length ∧ EqS lc [(5, .own w 3 (tksD X))] ∧ EqS hc (⟨[(b6, ⟨2, 1, [[.d (.str s), .d (.int .i64 ((j : Nat) : Int))]]⟩)], [w]⟩) ∧ (j ≤ s.length) ∧ (X.length ≤ 400) ∧ (cutF s (401 - X.length) X j = cutF s 401 [] 0)) ?_ ?_
 · refine ⟨_, 0, w0, [], rfl, ZE, ZE, ?_, ?_, ?_⟩
   all_goals (first | omega | rfl | (simp; done))
 rintro _ _ _ ⟨j, w, X, rfl, ⟨rfl⟩, ⟨rfl⟩, h1, h2, h3⟩
 refine Zy ?_
 refine AWp.block (Zs (Zx (Zy ?_)))
 refine ZA [b6] [] (cskip_c T hL b6 s j _ _ h1 hs) ?_
 rintro _ _ ⟨k, ok, e1, l1, l2, rfl, rfl⟩
 obtain ⟨p1, p2⟩ := sil_at l2 e1
 refine Zy ?_
 refine Zc (fun hc1 => ?_) fun hc1 => ?_
 ·
  subst hc1
  refine Zd true [0, 1, 2, 3, 4, 5, 6] ?_
  refine Zy ?_
  refine Zm 14 ?_
  refine AWp.ret ?_
  simp only [go_sem]
  rw [cutS, if_neg (by omega), ← h3, cu_4 h2 p1 p2]; simp [tksD]
 have hok : ok = true := by simpa using hc1
 subst hok
 refine Zk ?_
 refine Zs (Zp 4103 ?_)
 refine Zc (fun hc2 => ?_) fun hc2 => ?_
 ·
  refine Zp 14 ?_
  refine AWp.ret ?_
  simp only [go_sem]
  rw [cutS, if_neg (by omega), ← h3, cu_0 h2 p1 p2 (by omega)]; simp [tksD]
 refine Zk ?_
 refine Zp 15 ?_
 refine Zs (Zp 79 ?_)
 refine Zc (fun hc3 => ?_) fun hc3 => ?_
 ·
  refine Zp 14 ?_
  refine AWp.ret ?_
  simp only [go_sem]
  rw [cutS, if_neg (by omega), ← h3, cu_5 h2 p1 p2 (by omega) (by omega)]; simp [tksD]
 refine Zk ?_
 refine Zx (Zy ?_)
 refine ZA [b6] [] (one_c T hE b6 s k _ _ (by omega) hs) ?_
 rintro _ _ ⟨tt, te, q, u1, u2, u3, rfl, rfl⟩
 refine Zy ?_
 intro b8
 first | intro fb8 | have fb8 := True.intro
 try simp only [freshL] at fb8
 refine Zm 63 ?_
 refine Zs (Zp 191 ?_)
 refine Zc (fun hc4 => ?_) fun hc4 => ?_
 ·
  refine Zp 14 ?_
  refine AWp.ret ?_
  simp only [go_sem]
  rw [cutS, if_neg (by omega), ← h3, cu_e h2 p1 p2 (by omega) (by omega) hc4 (u2 hc4)]; simp [tksD]
 refine Zk ?_
 refine Zq fun K_ k_ => ?_
 simp only [go_sem, fb8]
 refine ZW fun t1 ft1 => ?_
 try simp only [freshT] at ft1
 refine Zy ?_
 refine k_ _ _ (blkQ_n (thenQ_n ?_))
 refine Ze 5 2 [b8] [] [b6] [t1] (.e ⟨_, ?_, q, t1, X ++ [tt], rfl, ?_, ZE, ?_, ?_, ?_⟩)
 · first | omega | (simp; omega) | (simp; omega)
 · (try simp only [go_sem]) <;> first | exact ⟨rfl⟩ | (constructor; simp [tksD, tkD]; done)
 · omega
 · simp; omega
 · rw [← h3]; exact (cu_s h2 p1 p2 (by omega) (by omega) (u1 (by omega)) u3).symm
end
section
theorem byte_is (c d : UInt8) : ((c.toNat : Int) = (d.toNat : Int)) ↔ c = d := ⟨fun h => UInt8.toNat_inj.1 (by omega), fun h => by rw [h]⟩
theorem drop_cons {s : Tx} {j : Nat} (h : j < s.length) : s.drop j = s.getD j 0 :: s.drop (j + 1) := by
 rw [List.drop_eq_getElem_cons h]
 simp [List.getD, List.getElem?_eq_getElem h]
theorem drop_none {s : Tx} {j : Nat} (h : s.length ≤ j) : s.drop j = [] := List.drop_eq_nil_of_le h
theorem blk_of {c : UInt8} (h : (c.toNat : Int) = 32 ∨ (c.toNat : Int) = 9) : blkB c = true := by
 rcases h with h | h
 ·rw [(byte_is c 32).1 h]; rfl
 ·rw [(byte_is c 9).1 h]; rfl
theorem blk_no {c : UInt8} (h : ¬ ((c.toNat : Int) = 32 ∨ (c.toNat : Int) = 9)) : blkB c = false := by
 cases e : blkB c with
 | false => rfl
 | true =>
  exfalso
  simp only [blkB, Bool.or_eq_true, beq_iff_eq] at e
  rcases e with rfl | rfl
  ·exact h (.inl rfl)
  ·exact h (.inr rfl)
theorem runB_eq (c : UInt8) : runB c = (atomB c || decide ((c.toNat : Int) = 46)) := by
 unfold runB
 congr 1
 rw [Bool.eq_iff_iff, beq_iff_eq, decide_eq_true_eq]
 exact (byte_is c 46).symm
theorem sk_step {s : Tx} {j : Nat} (h : j < s.length) (hb : blkB (s.getD j 0) = true) : skipS (s.drop j) = skipS (s.drop (j + 1)) := by rw [drop_cons h, skip_cons hb]
theorem sk_end {s : Tx} {j : Nat} (h : j < s.length → blkB (s.getD j 0) = false) : skipS (s.drop j) = s.drop j := by
 rcases Nat.lt_or_ge j s.length with hj | hj
 ·rw [drop_cons hj, skip_stay (h hj)]
 ·rw [drop_none hj]; rfl
theorem run_step {s : Tx} {j : Nat} (h : j < s.length) (hb : runB (s.getD j 0) = true) : runS (s.drop j) = s.getD j 0 :: runS (s.drop (j + 1)) ∧ offS (s.drop j) = offS (s.drop (j + 1)) := by
 rw [drop_cons h, runS_cons hb]
 refine ⟨rfl, ?_⟩
 unfold offS; rw [List.dropWhile_cons, if_pos hb]
theorem run_end {s : Tx} {j : Nat} (h : j < s.length → runB (s.getD j 0) = false) : runS (s.drop j) = [] ∧ offS (s.drop j) = s.drop j := by
 rcases Nat.lt_or_ge j s.length with hj | hj
 ·rw [drop_cons hj, runS_no (h hj), offS_no (h hj)]; exact ⟨rfl, rfl⟩
 ·rw [drop_none hj]; exact ⟨rfl, rfl⟩
theorem take_step {s : Tx} {i j : Nat} (h : j < s.length) (hi : i ≤ j) (Z : Tx) : (s.take j).drop i ++ s.getD j 0 :: Z = (s.take (j + 1)).drop i ++ Z := by
 have : s.take (j + 1) = s.take j ++ [s.getD j 0] := by
  rw [List.take_add_one]; simp [List.getD, List.getElem?_eq_getElem h]
 rw [this, List.drop_append_of_le_length (by simp; omega)]
 simp
theorem head_is {s : Tx} {j n : Nat} (c : UInt8) (hc : c.toNat = n) (hn : 0 < n) (h : (((s.drop j).headD 0).toNat : Int) = (n : Int)) : j < s.length ∧ s.drop j = c :: s.drop (j + 1) := by
 rcases Nat.lt_or_ge j s.length with hj | hj
 ·refine ⟨hj, ?_⟩
  rw [drop_cons hj] at h ⊢
  simp only [List.headD_cons] at h
  have : s.getD j 0 = c := UInt8.toNat_inj.1 (by omega)
  rw [this]
 ·rw [drop_none hj] at h; simp at h; omega
theorem head_no {s : Tx} {j n : Nat} {c : UInt8} (hc : c.toNat = n) (h : ¬ (((s.drop j).headD 0).toNat : Int) = (n : Int)) : (s.drop j).head? ≠ some c := by
 intro e
 cases e2 : s.drop j with
 | nil => rw [e2] at e; simp at e
 | cons x r => rw [e2] at e h; simp at e; subst e; simp at h; omega
theorem quo_end {r : Tx} : quoS (34 :: r) = some r := by cases r <;> simp [quoS]
theorem quo_esc {c : UInt8} {r : Tx} : quoS (92 :: c :: r) = quoS r := by simp [quoS]
theorem quo_esc1 : quoS [92] = none := by simp [quoS]
theorem quo_step {c : UInt8} {r : Tx} (h1 : c ≠ 34) (h2 : c ≠ 92) : quoS (c :: r) = quoS r := by cases r <;> simp [quoS, h1, h2]
def qob (b : Nat) (s : Tx) (i : Nat) : Nat × Ob := (b, ⟨2, 1, [[.d (.str s), .d (.int .i64 i)]]⟩)
attribute [go_sem] qob
def errV : AV := .ifc 25 (.d (.int .i64 3))
attribute [local go_sem] qob in
theorem skip_c (T : Tbl) (b : Nat) (s : Tx) (i : Nat) (F : List (Nat × Ob)) (L : List Nat) (hi : i ≤ s.length) (hs : s.length ≤ 4096) : AC Tryz.prog T 220 [.ptr b 2 0 0] (⟨qob b s i :: F, L⟩) (fun x h => ∃ j, i ≤ j ∧ j ≤ s.length ∧ s.drop j = skipS (s.drop i) ∧ x = .ret (.tup []) ∧ h = ⟨qob b s j :: F, L⟩) := by
 refine ⟨Tryz.call220, ACalls.enterS Tryz.func220 rfl Tryz.ntmps220 rfl fun hb => ?_⟩
 simp only [go_sem, Tryz.results220]
 refine AWp.block (Zl 1 0 (fun n lc hc => ∃ (j : Nat), n = s.length - j ∧ EqS lc [] ∧ EqS hc (⟨qob b s j :: F, L⟩) ∧ (i ≤ j) ∧ (j ≤ s.length) ∧ (skipS (s.drop j) = skipS (s.drop i))) ⟨_, i, rfl, ZE, ZE, ZI, ZI, ZI⟩ ?_)
 rintro _ _ _ ⟨j, rfl, ⟨rfl⟩, ⟨rfl⟩, h1, h2, h3⟩
 refine Zy ?_
 refine Zs (Zd true [0, 1, 2, 3, 4, 5, 6, 7, 8, 9, 10, 11, 12, 13, 14, 15, 16, 17, 18, 19, 20, 21, 22, 23, 24, 25, 26, 27, 28, 29, 30, 31, 32, 33] ?_)
 refine Zy ?_
 (repeat (with_reducible refine And.intro ZS ?_))
 refine Zm 17179869185 ?_
 refine Zc (fun hc0 => ?_) fun hc0 => ?_
 ·
  refine Zk ?_
  refine AWp.block (Zr (blkQ_n (thenQ_n ?_)))
  refine Ze 1 0 [] [] [b] [] (.e ⟨_, ZM, j + 1, rfl, ZE, ?_, ?_, ?_, ?_⟩)
  · (try simp only [go_sem]) <;> first | exact ⟨rfl⟩ | (constructor; simp [qob]; done)
  · omega
  · omega
  · rw [← sk_step (by omega) (blk_of (by simpa using hc0.2))]; exact h3
 refine AWp.exit (thenQ_e (thenQ_e (blkQ_e ?_)))
 apply endW_n [] [] [b] [] (by (try simp only [go_sem]); rfl)
 · refine ⟨j, h1, h2, ?_, rfl, ?_⟩
   · rw [← h3, sk_end (fun hj => blk_no (fun hb => ?_))]
     rcases hc0 with hc0 | hc0
     · omega
     · omega
   · simp only [go_sem]
 · simp only [LeA, LeL]
attribute [local go_sem] qob in
theorem next_c (T : Tbl) (b : Nat) (s : Tx) (i : Nat) (F : List (Nat × Ob)) (L : List Nat) (hi : i ≤ s.length) (hs : s.length ≤ 4096) : AC Tryz.prog T 222 [.ptr b 2 0 0] (⟨qob b s i :: F, L⟩) (fun x h => x = .ret (.d (.int .u8 ((s.drop i).headD 0).toNat)) ∧ h = ⟨qob b s i :: F, L⟩) := by
 refine ⟨Tryz.call222, ACalls.enterS Tryz.func222 rfl Tryz.ntmps222 rfl fun hb => ?_⟩
 simp only [go_sem, Tryz.results222]
 refine Zp 1 ?_
 refine Zs (Zd true [0, 1, 2, 3, 4, 5, 6, 7, 8, 9] ?_)
 refine Zy ?_
 refine Zm 1025 ?_
 refine Zc (fun hc0 => ?_) fun hc0 => ?_
 ·
  refine Zp 2 ?_
  refine AWp.ret ?_
  simp only [thenQ]
  apply endW_r [] [] [b] [] (by (try simp only [go_sem]); rfl)
  · refine ⟨rfl, ?_⟩
    simp only [go_sem]
  · rw [drop_none (by omega)]; simp [LeA, LeD]
 refine Zk ?_
 refine Zd true [0, 1, 2, 3, 4, 5, 6, 7, 8, 9] ?_
 refine Zy ?_
 (repeat (with_reducible refine And.intro ZS ?_))
 refine Zm 2 ?_
 refine AWp.ret ?_
 apply endW_r [] [] [b] [] (by (try simp only [go_sem]); rfl)
 · refine ⟨rfl, ?_⟩
   simp only [go_sem]
 · rw [drop_cons (by omega)]; simp [LeA, LeD]
attribute [local go_sem] qob in
theorem run_c (T : Tbl) (b : Nat) (s : Tx) (i : Nat) (F : List (Nat × Ob)) (L : List Nat) (hi : i ≤ s.length) (hs : s.length ≤ 4096) : AC Tryz.prog T 264 [.ptr b 2 0 0] (⟨qob b s i :: F, L⟩) (fun x h => ∃ j, i ≤ j ∧ j ≤ s.length ∧ s.drop j = offS (s.drop i) ∧ x = .ret (.d (.str (runS (s.drop i)))) ∧ h = ⟨qob b s j :: F, L⟩) := by
 refine ⟨Tryz.call264, ACalls.enterS Tryz.func264 rfl Tryz.ntmps264 rfl fun hb => ?_⟩
 simp only [go_sem, Tryz.results264]
 refine Zp 1 ?_
 refine Zp 3 ?_
 refine Zs (AWp.block (Zy ?_))
 refine Zl 3 0 (fun n lc hc => ∃ (j : Nat), n = s.length - j ∧ EqS lc [] ∧ EqS hc (⟨qob b s j :: F, L⟩) ∧ (i ≤ j) ∧ (j ≤ s.length) ∧ (offS (s.drop j) = offS (s.drop i)) ∧ ((s.take j).drop i ++ runS (s.drop j) = runS (s.drop i))) ?_ ?_
 · refine ⟨_, i, rfl, ZE, ZE, ?_, ?_, ?_, ?_⟩
   all_goals (first | omega | rfl | (simp; done))
 rintro _ _ _ ⟨j, rfl, ⟨rfl⟩, ⟨rfl⟩, h1, h2, h3, h4⟩
 refine Zy ?_
 refine Zs (Zd true [0, 1, 2, 3, 4, 5, 6, 7, 8, 9, 10, 11, 12, 13, 14, 15, 16, 17, 18, 19, 20, 21, 22, 23, 24, 25, 26, 27, 28, 29, 30, 31, 32, 33] ?_)
 refine Zy ?_
 (repeat (with_reducible refine And.intro ZS ?_))
 refine DW.pcgr rfl rfl rfl rfl rfl (fun hg => atom_p T _) (fun hg => by (try simp only [go_sem]) <;> first | exact hg | (exfalso; simp at hg; done) | (simpa using hg) | grind) rfl rfl ?_
 refine Zy ?_
 (repeat (with_reducible refine And.intro ZS ?_))
 refine Zm 34359738371 ?_
 refine Zc (fun hc0 => ?_) fun hc0 => ?_
 ·
  have hrb : ∀ h, runB (s.getD j 0) = true := fun (h : (atomB (s.getD j 0) = true ∨ ((s.getD j 0).toNat : Int) = 46)) => by rw [runB_eq]; simpa using h
  refine Zk ?_
  refine AWp.block (Zr (blkQ_n (thenQ_n ?_)))
  refine Ze 3 0 [] [] [b] [] (.e ⟨_, ZM, j + 1, rfl, ZE, ?_, ?_, ?_, ?_, ?_⟩)
  · (try simp only [go_sem]) <;> first | exact ⟨rfl⟩ | (constructor; simp [qob]; done)
  · omega
  · omega
  · rw [← (run_step (by omega) (hrb hc0.2)).2]; exact h3
  · rw [(run_step (by omega) (hrb hc0.2)).1, take_step (by omega) h1] at h4; exact h4
 have he := run_end (s := s) (j := j) (fun hj => by
   rw [runB_eq]
   rcases hc0 with hc0 | hc0
   · omega
   · simpa using hc0)
 refine AWp.exit (thenQ_e (thenQ_e (blkQ_e (thenQ_n ?_))))
 refine Zd true [0, 1, 2, 3, 4, 5, 6, 7, 8, 9, 10] ?_
 refine Zy ?_
 (repeat (with_reducible refine And.intro ZS ?_))
 refine Zm 2 ?_
 refine AWp.ret ?_
 apply endW_r [] [] [b] [] (by (try simp only [go_sem]); rfl)
 · refine ⟨j, h1, h2, ?_, rfl, ?_⟩
   · rw [← h3, he.2]
   · simp only [go_sem]
 · rw [he.1, List.append_nil] at h4; rw [← h4]; simp [LeA, LeD]
theorem must_c (T : Tbl) (ok : Bool) (h : AH) : AC Tryz.prog T 221 [.d (.bool ok)] (h) (fun x h' => (ok = false ∧ x = .pan errV ∧ h' = h) ∨ (ok = true ∧ x = .ret (.tup []) ∧ h' = h)) := by
 refine ⟨Tryz.call221, ACalls.enterS Tryz.func221 rfl Tryz.ntmps221 rfl fun hb => ?_⟩
 simp only [go_sem, Tryz.results221]
 refine Zp 4 ?_
 refine Zc (fun hc0 => ?_) fun hc0 => ?_
 ·
  refine Zq fun K_ k_ => ?_
  refine Zy ?_
  refine DW.panic rfl rfl rfl ?_
  intro _
  refine endW_p [] [] [] [] ?_
  exact .inl ⟨by simpa using hc0, rfl, rfl⟩
 refine AWp.skip ?_
 apply endW_n [] [] [] [] (by (try simp only [go_sem]); rfl)
 · exact .inr ⟨by simpa using hc0, rfl, rfl⟩
 · simp only [LeA, LeL]
attribute [local go_sem] qob in
theorem quoted_c (T : Tbl) (b : Nat) (s : Tx) (i : Nat) (F : List (Nat × Ob)) (L : List Nat) (hi : i < s.length) (hs : s.length ≤ 4096) : AC Tryz.prog T 262 [.ptr b 2 0 0] (⟨qob b s i :: F, L⟩) (fun x h => (quoS (s.drop (i + 1)) = none ∧ x = .pan errV ∧ ∃ j, h = ⟨qob b s j :: F, L⟩) ∨ ∃ j, i < j ∧ j ≤ s.length ∧ quoS (s.drop (i + 1)) = some (s.drop j) ∧ x = .ret (.tup []) ∧ h = ⟨qob b s j :: F, L⟩) := by
 refine ⟨Tryz.call262, ACalls.enterS Tryz.func262 rfl Tryz.ntmps262 rfl fun hb => ?_⟩
 simp only [go_sem, Tryz.results262]
 refine Zs (Zp 1 ?_)
 refine AWp.block (Zy ?_)
 refine Zl 1 0 (fun n lc hc => ∃ (j : Nat), n = s.length - j ∧ EqS lc [] ∧ EqS hc (⟨qob b s j :: F, L⟩) ∧ (i < j) ∧ (j ≤ s.length) ∧ (quoS (s.drop j) = quoS (s.drop (i + 1)))) ?_ ?_
 · refine ⟨_, i + 1, rfl, ZE, ?_, ZI, ZI, ZI⟩
   · (try simp only [go_sem]) <;> first | exact ⟨rfl⟩ | (constructor; simp [qob]; done)
 rintro _ _ _ ⟨j, rfl, ⟨rfl⟩, ⟨rfl⟩, h1, h2, h3⟩
 refine Zy ?_
 refine Zs (Zx (Zy ?_))
 refine ZA [b] [] (next_c T b s j _ _ (by omega) hs) ?_
 rintro _ _ ⟨rfl, rfl⟩
 refine Zy ?_
 refine Zc (fun hc0 => ?_) fun hc0 => ?_
 ·
  have hn34 := head_no (c := 34) rfl hc0
  refine Zk ?_
  refine Zs (AWp.block (Zs (Zx (Zy ?_))))
  refine ZA [b] [] (next_c T b s j _ _ (by omega) hs) ?_
  rintro _ _ ⟨rfl, rfl⟩
  refine Zy ?_
  refine Zm 65 ?_
  refine Zc (fun hc1 => ?_) fun hc1 => ?_
  ·
   obtain ⟨hj, hd⟩ := head_is 92 rfl (by decide) hc1
   have hst : quoS (s.drop (j + 1 + 1)) = quoS (s.drop j) ∨ s.length ≤ j + 1 := by
     rcases Nat.lt_or_ge (j + 1) s.length with h | h
     · left; rw [hd, drop_cons h, quo_esc]
     · exact .inr h
   refine Zr (thenQ_n ?_)
   refine Zm 1 ?_
   refine Zt false [0, 1, 2, 3, 4, 5, 6, 7, 8, 9, 10] fun K_ k_ => ?_
   refine Zy ?_
   refine ZA [] [] (must_c T _ _) ?_
   rintro _ _ (⟨hm1, rfl, rfl⟩ | ⟨hm1, rfl, rfl⟩)
   ·
    intro _
    simp only [thenQ, blkQ]
    refine endW_p [] [] [b] [] ?_
    simp only [decide_eq_false_iff_not, Int.not_lt] at hm1
    first | exact .inl ⟨by rw [← h3, hd, drop_none (by omega)]; exact quo_esc1, rfl, j + 1, by simp [go_sem]⟩ | exact .inl ⟨by rw [← h3, drop_none (by omega)]; rfl, rfl, j, by simp only [go_sem, qob]⟩
   simp only [decide_eq_true_eq] at hm1
   refine Zy ?_
   refine k_ _ _ (blkQ_n (thenQ_n ?_))
   refine Zm 1 ?_
   refine Zr (thenQ_n ?_)
   refine Ze 1 0 [] [] [b] [] (.e ⟨_, ZM, j + 1 + 1, rfl, ZE, ?_, ?_, ?_, ?_⟩)
   · (try simp only [go_sem]) <;> first | exact ⟨rfl⟩ | (constructor; simp [qob]; done)
   · omega
   · omega
   · rcases hst with e | e <;> first | omega | (rw [e]; exact h3)
  have hn92 := head_no (c := 92) rfl hc1
  have hst : s.length ≤ j ∨ quoS (s.drop (j + 1)) = quoS (s.drop j) := by
    rcases Nat.lt_or_ge j s.length with h | h
    · right
      rw [drop_cons h] at hn34 hn92 ⊢
      simp at hn34 hn92
      exact (quo_step hn34 hn92).symm
    · exact .inl h
  refine Zk ?_
  refine Zt false [0, 1, 2, 3, 4, 5, 6, 7, 8, 9, 10] fun K_ k_ => ?_
  refine Zy ?_
  refine ZA [] [] (must_c T _ _) ?_
  rintro _ _ (⟨hm2, rfl, rfl⟩ | ⟨hm2, rfl, rfl⟩)
  ·
   intro _
   simp only [thenQ, blkQ]
   refine endW_p [] [] [b] [] ?_
   simp only [decide_eq_false_iff_not, Int.not_lt] at hm2
   first | exact .inl ⟨by rw [← h3, hd, drop_none (by omega)]; exact quo_esc1, rfl, j + 1, by simp [go_sem, qob]⟩ | exact .inl ⟨by rw [← h3, drop_none (by omega)]; rfl, rfl, j, by simp only [go_sem]⟩
  simp only [decide_eq_true_eq] at hm2
  refine Zy ?_
  refine k_ _ _ (blkQ_n (thenQ_n ?_))
  refine Zm 1 ?_
  refine Zr (thenQ_n ?_)
  refine Ze 1 0 [] [] [b] [] (.e ⟨_, ZM, j + 1, rfl, ZE, ?_, ?_, ?_, ?_⟩)
  · (try simp only [go_sem]) <;> first | exact ⟨rfl⟩ | (constructor; simp [qob]; done)
  · omega
  · omega
  · rcases hst with e | e <;> first | omega | (rw [e]; exact h3)
 obtain ⟨hj, hd⟩ := head_is 34 rfl (by decide) hc0
 refine AWp.exit (thenQ_e (thenQ_e (blkQ_e (thenQ_n ?_))))
 refine Zr ?_
 apply endW_n [] [] [b] [] (by (try simp only [go_sem]); rfl)
 · refine .inr ⟨j + 1, by omega, by omega, ?_, rfl, ?_⟩
   · rw [← h3, hd, quo_end]
   · simp only [go_sem]; simp
 · simp only [LeA, LeL]
end
section
theorem bare_at {l : Tx} {s : Tx} {j : Nat} (hd : s.drop j = 64 :: s.drop (j + 1)) (h : adrE l (runS (s.drop (j + 1))) = 0) : bareS l (s.drop j) = some ((l, runS (s.drop (j + 1))), offS (s.drop (j + 1))) := by
 rw [hd, bareS, if_pos ⟨rfl, h⟩]
theorem bare_no {l : Tx} {s : Tx} {j : Nat} (h : (s.drop j).head? = some 64 → adrE l (runS (s.drop (j + 1))) ≠ 0) : bareS l (s.drop j) = none := by
 rcases Nat.lt_or_ge j s.length with hj | hj
 ·rw [drop_cons hj] at h ⊢
  rw [bareS, if_neg]
  rintro ⟨h1, h2⟩
  exact h (by rw [h1]; rfl) h2
 ·rw [drop_none hj]; rfl
theorem run_len (s : Tx) (j : Nat) : (runS (s.drop j)).length ≤ s.length := by
 have := (List.takeWhile_sublist (l := s.drop j) runB).length_le
 unfold runS
 simp at this ⊢
 omega
theorem gt_no {a : Ad} {s : Tx} {j : Nat} (h : (s.drop j).head? ≠ some 62) : gtS (some (a, s.drop j)) = none := by
 cases e : s.drop j with
 | nil => rfl
 | cons c r => rw [e] at h; simp at h; simp [gtS, h]
theorem gt_yes {a : Ad} {r : Tx} : gtS (some (a, 62 :: r)) = some (a, r) := by simp [gtS]
theorem addr_bare {s : Tx} {j j1 j2 : Nat} {first : Bool} (hsk : s.drop j1 = skipS (s.drop j)) (h1 : (s.drop j1).head? ≠ some 34) (h2 : (s.drop j1).head? ≠ some 60) (hr : s.drop j2 = offS (s.drop j1)) (hf : first = true) (h : (s.drop j2).head? = some 64) : addrS first (s.drop j) = bareS (runS (s.drop j1)) (s.drop j2) := by
 rw [addrS_x (by rw [← hsk]; exact h1) (by rw [← hsk]; exact h2), ← hsk, ← hr, if_pos ⟨hf, h⟩]
theorem addr_word {s : Tx} {j j1 j2 : Nat} {first : Bool} (hsk : s.drop j1 = skipS (s.drop j)) (h1 : (s.drop j1).head? ≠ some 34) (h2 : (s.drop j1).head? ≠ some 60) (hr : s.drop j2 = offS (s.drop j1)) (h : ¬ (first = true ∧ (s.drop j2).head? = some 64)) : addrS first (s.drop j) = if runS (s.drop j1) = [] then none else addrS false (s.drop j2) := by
 rw [addrS_x (by rw [← hsk]; exact h1) (by rw [← hsk]; exact h2), ← hsk, ← hr, if_neg h]
theorem run_lt {s : Tx} {j1 j2 : Nat} (hr : s.drop j2 = offS (s.drop j1)) (h : runS (s.drop j1) ≠ []) (hj : j2 ≤ s.length) : j1 < j2 := by
 have := off_lt _ h
 rw [← hr] at this
 simp at this
 omega
theorem icast (n : Nat) : (n : Int) + 1 = ((n + 1 : Nat) : Int) := rfl
attribute [local go_sem] qob icast in
theorem qbare_c (T : Tbl) (hL : LibT T) (b : Nat) (s : Tx) (i : Nat) (F : List (Nat × Ob)) (L : List Nat) (hi : i ≤ s.length) (hs : s.length ≤ 4096) (l : Tx) (hl : l.length ≤ 4096) : AC Tryz.prog T 263 [.ptr b 2 0 0, .d (.str l)] (⟨qob b s i :: F, L⟩) (fun x h => (bareS l (s.drop i) = none ∧ x = .pan errV ∧ ∃ j, h = ⟨qob b s j :: F, L⟩) ∨ ∃ j a, i ≤ j ∧ j ≤ s.length ∧ bareS l (s.drop i) = some (a, s.drop j) ∧ x = .ret (.agg [.d (.str a.1), .d (.str a.2)]) ∧ h = ⟨qob b s j :: F, L⟩) := by
 refine ⟨Tryz.call263, ACalls.enterS Tryz.func263 rfl Tryz.ntmps263 rfl fun hb => ?_⟩
 simp only [go_sem, Tryz.results263]
 refine Zx (Zy ?_)
 intro b4
 first | intro fb4 | have fb4 := True.intro
 try simp only [freshL, qob] at fb4
 refine Zx (Zy ?_)
 refine ZA [b] [] (next_c T b s i _ _ (by omega) hs) ?_
 rintro _ _ ⟨rfl, rfl⟩
 refine Zy ?_
 refine ZA [] [] (must_c T _ _) ?_
 rintro _ _ (⟨hm1, rfl, rfl⟩ | ⟨hm1, rfl, rfl⟩)
 ·
  intro _
  refine endW_p [b4] [] [b] [] ?_
  simp only [decide_eq_false_iff_not] at hm1
  exact .inl ⟨bare_no (fun h => absurd h (head_no (c := 64) rfl hm1)), rfl, i, by simp only [go_sem, fb4]⟩
 simp only [decide_eq_true_eq] at hm1
 obtain ⟨hj, hd⟩ := head_is 64 rfl (by decide) hm1
 refine Zy ?_
 refine Zm 7 ?_
 refine Zp 7 ?_
 refine Zx (Zy ?_)
 refine ZA [b] [] (run_c T b s (i + 1) _ _ (by omega) hs) ?_
 rintro _ _ ⟨I2, hI2a, hI2b, hI2c, rfl, rfl⟩
 refine Zy ?_
 intro b5
 first | intro fb5 | have fb5 := True.intro
 try simp only [freshL, qob] at fb5
 refine Zm 12 ?_
 refine Zx ?_
 simp only [go_sem, fb5]
 refine DW.pcr rfl rfl rfl rfl (whoCheck_p T hL _ _ (by omega) (by have := run_len s (i + 1); omega)) rfl rfl ?_
 refine Zy ?_
 refine ZA [] [] (must_c T _ _) ?_
 rintro _ _ (⟨hm3, rfl, rfl⟩ | ⟨hm3, rfl, rfl⟩)
 ·
  intro _
  refine endW_p [b4, b5] [] [b] [] ?_
  simp only [decide_eq_false_iff_not] at hm3
  exact .inl ⟨bare_no (fun _ h => hm3 h), rfl, I2, by simp only [go_sem, fb4, fb5]⟩
 simp only [decide_eq_true_eq] at hm3
 have hA := hm3
 refine Zy ?_
 refine Zm 3 ?_
 refine Zp 1 ?_
 refine AWp.ret ?_
 apply endW_r [b4, b5] [] [b] [] (by (try simp only [go_sem, fb4, fb5]); rfl)
 · refine .inr ⟨I2, (l, runS (s.drop (i + 1))), by omega, by omega, ?_, rfl, ?_⟩
   · rw [hI2c]; exact bare_at hd hA
   · simp only [go_sem, fb4, fb5]
 · simp only [LeA, LeL, LeD, and_self]
attribute [local go_sem] qob icast in
theorem address_c (T : Tbl) (hL : LibT T) (b : Nat) (s : Tx) (i : Nat) (F : List (Nat × Ob)) (L : List Nat) (hi : i ≤ s.length) (hs : s.length ≤ 4096) : AC Tryz.prog T 219 [.ptr b 2 0 0] (⟨qob b s i :: F, L⟩) (fun x h => (addrS true (s.drop i) = none ∧ x = .pan errV ∧ ∃ j, h = ⟨qob b s j :: F, L⟩) ∨ ∃ j a, i ≤ j ∧ j ≤ s.length ∧ addrS true (s.drop i) = some (a, s.drop j) ∧ x = .ret (.agg [.d (.str a.1), .d (.str a.2)]) ∧ h = ⟨qob b s j :: F, L⟩) := by
 refine ⟨Tryz.call219, ACalls.enterS Tryz.func219 rfl Tryz.ntmps219 rfl fun hb => ?_⟩
 simp only [go_sem, Tryz.results219]
 refine Zx (Zy ?_)
 intro b2
 first | intro fb2 | have fb2 := True.intro
 try simp only [freshL, qob] at fb2
 refine Zp 7 ?_
 refine AWp.block (Zy ?_)
 refine Zl 3 4 (fun n lc hc => ∃ (j w : Nat), n = s.length - j ∧ EqS lc [(3, .d (.int .i64 w))] ∧ EqS hc (⟨[(b2, ⟨2, 1, [[.d (.str []), .d (.str [])]]⟩), qob b s j] ++ F, L⟩) ∧ (i ≤ j) ∧ (j ≤ s.length) ∧ (w ≤ j) ∧ (addrS (decide (w = 0)) (s.drop j) = addrS true (s.drop i))) ?_ ?_
 · refine ⟨_, i, 0, rfl, ZE, ZE, ?_, ?_, ?_, ?_⟩
   all_goals (first | omega | rfl)
 rintro _ _ _ ⟨j, w, rfl, ⟨rfl⟩, ⟨rfl⟩, h1, h2, h3, h4⟩
 refine Zy ?_
 refine Zs (AWp.block (Zx (Zy ?_)))
 refine ZA [b] [] (skip_c T b s j _ _ (by omega) hs) ?_
 rintro _ _ ⟨I1, hI1a, hI1b, hI1c, rfl, rfl⟩
 refine Zy ?_
 have hsk := hI1c
 refine Zx (Zy ?_)
 refine ZA [b] [] (next_c T b s I1 _ _ (by omega) hs) ?_
 rintro _ _ ⟨rfl, rfl⟩
 refine Zy ?_
 refine AWp.block (Zp 199 ?_)
 refine Zc (fun hc0 => ?_) fun hc0 => ?_
 ·
  obtain ⟨hj, hd⟩ := head_is 34 rfl (by decide) hc0
  have hq := fun first => addrS_34 (first := first) (s := s.drop j) (r := s.drop (I1 + 1)) (by rw [← hsk, hd])
  refine Zq fun K_ k_ => ?_
  refine Zy ?_
  refine ZA [b] [] (quoted_c T b s I1 _ _ (by omega) hs) ?_
  rintro _ _ (⟨hI2q, rfl, yI2, rfl⟩ | ⟨I2, hI2a, hI2b, hI2q, rfl, rfl⟩)
  ·
   intro _
   simp only [thenQ, blkQ]
   refine endW_p [b2] [] [b] [] ?_
   exact .inl ⟨by rw [← h4, hq, hI2q], rfl, yI2, by simp only [go_sem, fb2]⟩
  have hst : addrS (decide (w = 0)) (s.drop j) = addrS false (s.drop I2) := by rw [hq, hI2q]
  refine Zy ?_
  refine k_ _ _ (blkQ_n (blkQ_n (thenQ_n ?_)))
  refine Zm 7 ?_
  refine Zr (thenQ_n ?_)
  refine Ze 3 4 [] [] [b2, b] [] (.e ⟨_, ZM, I2, w + 1, rfl, ZE, ZE, ?_, ?_, ?_, ?_⟩)
  · omega
  · omega
  · omega
  · rw [show decide (w + 1 = 0) = false by simp, ← h4]; exact hst.symm
 have hn34 := head_no (c := 34) rfl hc0
 refine Zp 39 ?_
 refine Zc (fun hc1 => ?_) fun hc1 => ?_
 ·
  obtain ⟨hj, hd⟩ := head_is 60 rfl (by decide) hc1
  have hq := fun first => addrS_60 (first := first) (s := s.drop j) (r := s.drop (I1 + 1)) (by rw [← hsk, hd])
  refine Zp 3 ?_
  refine Zx (Zy ?_)
  refine ZA [b] [] (run_c T b s (I1 + 1) _ _ (by omega) hs) ?_
  rintro _ _ ⟨I3, hI3a, hI3b, hI3c, rfl, rfl⟩
  refine Zy ?_
  refine DW.acp [b] [] rfl rfl rfl rfl (by (try simp only [go_sem, fb2]); rfl) rfl (qbare_c T hL b s I3 _ _ (by omega) hs _ (by have := run_len s (I1 + 1); omega)) ?_
  rintro _ _ (⟨hI4q, rfl, yI4, rfl⟩ | ⟨I4, aI4, hI4a, hI4b, hI4q, rfl, rfl⟩)
  ·
   intro _
   simp only [thenQ, blkQ]
   refine endW_p [b2] [] [b] [] ?_
   exact .inl ⟨by rw [← h4, hq, ← hI3c, hI4q]; rfl, rfl, yI4, by simp only [go_sem, fb2]⟩
  have hbq := hI4q
  rw [hI3c] at hbq
  refine Zy ?_
  intro b4
  first | intro fb4 | have fb4 := True.intro
  try simp only [freshL, qob] at fb4
  refine Zm 7 ?_
  refine Zx (Zy ?_)
  refine ZA [b] [] (next_c T b s I4 _ _ (by omega) hs) ?_
  rintro _ _ ⟨rfl, rfl⟩
  refine Zy ?_
  refine DW.acp [] [] rfl rfl rfl rfl (by (try simp only [go_sem]); rfl) rfl (must_c T _ _) ?_
  rintro _ _ (⟨hm5, rfl, rfl⟩ | ⟨hm5, rfl, rfl⟩)
  ·
   intro _
   simp only [thenQ, blkQ]
   refine endW_p [b2, b4] [] [b] [] ?_
   simp only [decide_eq_false_iff_not] at hm5
   exact .inl ⟨by rw [← h4, hq, hbq, gt_no (head_no (c := 62) rfl hm5)], rfl, I4, by simp only [go_sem, fb2, fb4]⟩
  simp only [decide_eq_true_eq] at hm5
  obtain ⟨hj2, hd2⟩ := head_is 62 rfl (by decide) hm5
  refine Zy ?_
  refine Zm 7 ?_
  refine Zp 6 ?_
  refine Zp 1 ?_
  refine AWp.ret ?_
  simp only [thenQ, blkQ]
  apply endW_r [b2, b4] [] [b] [] (by (try simp only [go_sem, fb2, fb4]); rfl)
  · refine .inr ⟨I4 + 1, aI4, by omega, by omega, ?_, rfl, ?_⟩
    · rw [← h4, hq, hbq, hd2, gt_yes]
    · simp only [go_sem, fb2, fb4]
  · simp only [LeA, LeL, LeD, and_self]
 have hn60 := head_no (c := 60) rfl hc1
 refine Zx (Zy ?_)
 refine ZA [b] [] (run_c T b s I1 _ _ (by omega) hs) ?_
 rintro _ _ ⟨I6, hI6a, hI6b, hI6c, rfl, rfl⟩
 refine Zy ?_
 have hrn := hI6c
 refine Zs (Zx (Zy ?_))
 refine ZA [b] [] (next_c T b s I6 _ _ (by omega) hs) ?_
 rintro _ _ ⟨rfl, rfl⟩
 refine Zy ?_
 refine Zm 4111 ?_
 refine Zc (fun hc2 => ?_) fun hc2 => ?_
 ·
  obtain ⟨hj2, hd2⟩ := head_is 64 rfl (by decide) hc2.1
  have hst := addr_bare (first := decide (w = 0)) hsk hn34 hn60 hrn (by simpa using hc2.2) (by rw [hd2]; rfl)
  refine Zx (Zy ?_)
  refine DW.acp [b] [] rfl rfl rfl rfl (by (try simp only [go_sem, fb2]); rfl) rfl (qbare_c T hL b s I6 _ _ (by omega) hs _ (by have := run_len s I1; omega)) ?_
  rintro _ _ (⟨hI7q, rfl, yI7, rfl⟩ | ⟨I7, aI7, hI7a, hI7b, hI7q, rfl, rfl⟩)
  ·
   intro _
   simp only [thenQ, blkQ]
   refine endW_p [b2] [] [b] [] ?_
   exact .inl ⟨by rw [← h4, hst, hI7q], rfl, yI7, by simp only [go_sem, fb2]⟩
  simp only [go_sem, fb2]
  refine Zm 2 ?_
  refine AWp.ret ?_
  simp only [thenQ, blkQ]
  apply endW_r [b2] [] [b] [] (by (try simp only [go_sem, fb2]); rfl)
  · refine .inr ⟨I7, aI7, by omega, by omega, ?_, rfl, ?_⟩
    · rw [← h4, hst, hI7q]
    · simp only [go_sem, fb2]
  · simp only [LeA, LeL, LeD, and_self]
 have hst0 := addr_word (first := decide (w = 0)) hsk hn34 hn60 hrn (fun h => by
   rcases hc2 with hc2 | hc2
   · exact head_no (c := 64) rfl (by simpa using hc2) h.2
   · have := h.1; simp at this; omega)
 refine Zk ?_
 refine Zq fun K_ k_ => ?_
 refine Zy ?_
 refine ZA [] [] (must_c T _ _) ?_
 rintro _ _ (⟨hm8, rfl, rfl⟩ | ⟨hm8, rfl, rfl⟩)
 ·
  intro _
  simp only [thenQ, blkQ]
  refine endW_p [b2] [] [b] [] ?_
  simp only [decide_eq_true_eq, Bool.not_eq_false'] at hm8
  exact .inl ⟨by rw [← h4, hst0, if_pos hm8], rfl, I6, by simp only [go_sem, fb2]⟩
 simp only [decide_eq_false_iff_not, Bool.not_eq_true'] at hm8
 have hlt := run_lt hrn hm8 (by omega)
 have hst := hst0.trans (if_neg hm8)
 refine Zy ?_
 refine k_ _ _ (blkQ_n (blkQ_n (thenQ_n ?_)))
 refine Zm 7 ?_
 refine Zr (thenQ_n ?_)
 refine Ze 3 4 [] [] [b2, b] [] (.e ⟨_, ZM, I6, w + 1, rfl, ZE, ZE, ?_, ?_, ?_, ?_⟩)
 · omega
 · omega
 · omega
 · rw [show decide (w + 1 = 0) = false by simp, ← h4]; exact hst.symm
end
section
structure Ent where
 kind : Int
 box : Tx
 uid : Int
 flags : Int
 dest : Tx
 text : Tx
def entA (x : Ent) : List AV := [.d (.int .i64 x.kind), .d (.str x.box), .d (.int .i64 x.uid), .d (.int .i64 x.flags), .d (.str x.dest), .d (.str x.text)]
attribute [go_sem] entA
def nmC (c : UInt8) : Bool := decide (33 ≤ (c.toNat : Int)) && decide ((c.toNat : Int) ≤ 126)
def nameE (s : Tx) : Int := if s.length < 1 ∨ 12 < s.length then 1 else if s.all nmC = true then 0 else 3
@[go_sem] theorem wrap8 (c : UInt8) : IntKind.i64.wrap (c.toNat : Int) = c.toNat := inR_wrap (by have := c.toNat_lt; simp only [inR]; omega)
theorem nameE_1 {s : Tx} (h : s.length < 1 ∨ 12 < s.length) : nameE s = 1 := if_pos h
theorem nameE_3 {s : Tx} (h : ¬ (s.length < 1 ∨ 12 < s.length)) {i : Nat} (hi : i < s.length) (hc : nmC (s.getD i 0) = false) : nameE s = 3 := by
 unfold nameE
 rw [if_neg h, if_neg]
 intro ha
 have := List.all_eq_true.1 ha (s.getD i 0) (by simp [List.getD, hi])
 rw [hc] at this; cases this
theorem all_step {s : Tx} {i : Nat} (hi : i < s.length) (hc : nmC (s.getD i 0) = true) (h : (s.drop i).all nmC = true → s.all nmC = true) : (s.drop (i + 1)).all nmC = true → s.all nmC = true := fun h2 => h (by rw [drop_cons hi, List.all_cons, hc, h2]; rfl)
theorem nameE_end {s : Tx} (h : ¬ (s.length < 1 ∨ 12 < s.length)) {i : Nat} (hi : s.length ≤ i) (ha : (s.drop i).all nmC = true → s.all nmC = true) : nameE s = 0 := by
 unfold nameE
 rw [if_neg h, if_pos (ha (by rw [drop_none hi]; rfl))]
theorem In_c (T : Tbl) (n lo hi : Int) : PC Tryz.prog T 98 [.d (.int .i64 n), .d (.int .i64 lo), .d (.int .i64 hi)] (.d (.bool (decide (lo ≤ n) && decide (n ≤ hi)))) := by
 refine ⟨Tryz.call98, PCall.enterS Tryz.func98 rfl Tryz.ntmps98 rfl fun hb => ?_⟩
 simp only [go_sem, Tryz.results98]
 refine Zp 7 ?_
 refine Zp 8 ?_
 refine AWp.ret ?_
 simp only [go_sem]
 try simp [LeA, LeD]
attribute [local go_sem] icast in
theorem Name_c (T : Tbl) (s : Tx) (hb0 : s.length ≤ 9223372036854775807) : PC Tryz.prog T 148 [.d (.str s)] (.d (.int .i64 (nameE s))) := by
 refine ⟨Tryz.call148, PCall.enterS Tryz.func148 rfl Tryz.ntmps148 rfl fun hb => ?_⟩
 simp only [go_sem, Tryz.results148]
 refine Zp 1 ?_
 refine Zs (Zp 257 ?_)
 refine Zc (fun hc0 => ?_) fun hc0 => ?_
 ·
  refine Zp 2 ?_
  refine AWp.ret ?_
  simp only [go_sem]
  rw [nameE_1 (by omega)]; try simp [LeA, LeD]
 refine Zk ?_
 refine Zs (Zp 25 ?_)
 refine AWp.block (Zy ?_)
 refine Zl 3 4 (fun n lc hc => ∃ (i : Nat), n = s.length - i ∧ EqS lc [(14, .d (.int .i64 i))] ∧ EqS hc (⟨[], []⟩) ∧ (i ≤ s.length) ∧ ((s.drop i).all nmC = true → s.all nmC = true)) ?_ ?_
 · refine ⟨_, 0, rfl, ZE, ZE, ?_, ?_⟩
   all_goals (first | omega | (simp; done))
 rintro _ _ _ ⟨i, rfl, ⟨rfl⟩, ⟨rfl⟩, h1, h2⟩
 refine Zy ?_
 refine Zp 15 ?_
 refine Zs (Zc (fun hc1 => ?_) fun hc1 => ?_)
 ·
  have hlt : i < s.length := by omega
  refine Zk ?_
  refine Zs (AWp.block (Zp 15 ?_))
  refine Zp 8205 ?_
  refine Zc (fun hc2 => ?_) fun hc2 => ?_
  ·
   have hcc : nmC (s.getD i 0) = false := by
     unfold nmC
     simp only [Bool.and_eq_false_iff, decide_eq_false_iff_not]
     omega
   refine Zp 2 ?_
   refine AWp.ret ?_
   simp only [go_sem]
   rw [nameE_3 (by omega) hlt hcc]; try simp [LeA, LeD]
  have hcc : nmC (s.getD i 0) = true := by
    unfold nmC
    simp only [Bool.and_eq_true, decide_eq_true_eq]
    omega
  refine AWp.skip (blkQ_n (thenQ_n ?_))
  refine Zr (thenQ_n ?_)
  refine Zf 3 4 (.e ⟨_, ZM, i + 1, rfl, ZE, ZE, ?_, ?_⟩)
  · omega
  · exact all_step (by omega) hcc h2
 refine AWp.exit (thenQ_e (thenQ_e (blkQ_e (thenQ_n ?_))))
 refine Zm 0 ?_
 refine Zp 1 ?_
 refine AWp.ret ?_
 simp only [go_sem]
 rw [nameE_end (by omega) (by omega) h2]; try simp [LeA, LeD]
attribute [local go_sem] icast in
theorem BoxName_c (T : Tbl) (s : Tx) (hb0 : s.length ≤ 9223372036854775807) : PC Tryz.prog T 96 [.d (.str s)] (.d (.int .i64 (nameE s))) := by
 refine ⟨Tryz.call96, PCall.enterS Tryz.func96 rfl Tryz.ntmps96 rfl fun hb => ?_⟩
 simp only [go_sem, Tryz.results96]
 refine Zp 1 ?_
 refine Zs (Zx (Zy ?_))
 refine ZP (In_c T _ _ _) ?_
 refine Zy ?_
 refine Zc (fun hc0 => ?_) fun hc0 => ?_
 ·
  refine Zp 2 ?_
  refine AWp.ret ?_
  simp only [go_sem]
  rw [nameE_1 (by omega)]; try simp [LeA, LeD]
 refine Zk ?_
 refine Zm 1 ?_
 refine Zs (Zp 3 ?_)
 refine AWp.block (Zy ?_)
 refine Zl 1 2 (fun n lc hc => ∃ (i : Nat), n = s.length - i ∧ EqS lc [(3, .d (.int .i64 i))] ∧ EqS hc (⟨[], []⟩) ∧ (i ≤ s.length) ∧ ((s.drop i).all nmC = true → s.all nmC = true)) ?_ ?_
 · refine ⟨_, 0, rfl, ZE, ZE, ?_, ?_⟩
   all_goals (first | omega | (simp; done))
 rintro _ _ _ ⟨i, rfl, ⟨rfl⟩, ⟨rfl⟩, h1, h2⟩
 refine Zy ?_
 refine Zs (Zp 35 ?_)
 refine Zc (fun hc1 => ?_) fun hc1 => ?_
 ·
  have hlt : i < s.length := by omega
  refine Zk ?_
  refine Zs (AWp.block (Zx (Z3 ?_)))
  refine ZP (In_c T _ _ _) ?_
  refine Zy ?_
  refine Zm 259 ?_
  refine Zc (fun hc2 => ?_) fun hc2 => ?_
  ·
   have hcc : nmC (s.getD i 0) = false := by
     unfold nmC
     simp only [Bool.and_eq_false_iff, decide_eq_false_iff_not]
     omega
   refine Zp 2 ?_
   refine AWp.ret ?_
   simp only [go_sem]
   rw [nameE_3 (by omega) hlt hcc]; try simp [LeA, LeD]
  have hcc : nmC (s.getD i 0) = true := by
    unfold nmC
    simp only [Bool.and_eq_true, decide_eq_true_eq]
    omega
  refine AWp.skip (blkQ_n (thenQ_n ?_))
  refine Zr (thenQ_n ?_)
  refine Zf 1 2 (.e ⟨_, ZM, i + 1, rfl, ZE, ZE, ?_, ?_⟩)
  · omega
  · exact all_step (by omega) hcc h2
 refine AWp.exit (thenQ_e (thenQ_e (blkQ_e (thenQ_n ?_))))
 refine Zp 2 ?_
 refine AWp.ret ?_
 simp only [go_sem]
 rw [nameE_end (by omega) (by omega) h2]; try simp [LeA, LeD]
end
section
theorem rlet_c (T : Tbl) (c : UInt8) : PC Tryz.prog T 182 [.d (.int .u8 (c.toNat : Int))] (.d (.bool (letB c))) := by
 refine ⟨Tryz.call182, PCall.enterS Tryz.func182 rfl Tryz.ntmps182 rfl fun hb => ?_⟩
 simp only [go_sem, Tryz.results182]
 refine Zp 1 ?_
 refine Zx (Zy ?_)
 refine ZP (In_c T _ _ _) ?_
 refine Zy ?_
 refine ZQ (fun hg => In_c T _ _ _) ?_
 refine Zy ?_
 (repeat (with_reducible refine And.intro ZS ?_))
 refine Zm 2 ?_
 refine AWp.ret ?_
 simp only [go_sem]
 try simp [letB]
theorem rdig_c (T : Tbl) (c : UInt8) : PC Tryz.prog T 184 [.d (.int .u8 (c.toNat : Int))] (.d (.bool (digB c))) := by
 refine ⟨Tryz.call184, PCall.enterS Tryz.func184 rfl Tryz.ntmps184 rfl fun hb => ?_⟩
 simp only [go_sem, Tryz.results184]
 refine Zp 1 ?_
 refine Zx (Zy ?_)
 refine ZP (In_c T _ _ _) ?_
 refine Zy ?_
 refine Zm 2 ?_
 refine AWp.ret ?_
 simp only [go_sem]
 try simp [digB]
theorem rmark_c (T : Tbl) (c : UInt8) : PC Tryz.prog T 187 [.d (.int .u8 (c.toNat : Int))] (.d (.bool (mkB c))) := by
 refine ⟨Tryz.call187, PCall.enterS Tryz.func187 rfl Tryz.ntmps187 rfl fun hb => ?_⟩
 simp only [go_sem, Tryz.results187]
 refine Zp 1 ?_
 refine Zp 2 ?_
 refine AWp.ret ?_
 simp only [go_sem]
 try simp [mkB]
theorem rat_c (T : Tbl) (s : Tx) (i : Nat) : PC Tryz.prog T 181 [.d (.str s), .d (.int .i64 (i : Nat))] (.d (.int .u8 ((s.getD i 0).toNat : Int))) := by
 refine ⟨Tryz.call181, PCall.enterS Tryz.func181 rfl Tryz.ntmps181 rfl fun hb => ?_⟩
 simp only [go_sem, Tryz.results181]
 refine Zp 3 ?_
 refine Zs (Zp 35 ?_)
 refine Zc (fun hc0 => ?_) fun hc0 => ?_
 ·
  have hlt : i < s.length := by omega
  refine Zp 4 ?_
  refine AWp.ret ?_
  simp only [go_sem]
  try simp [LeA, LeD]
 have hg := get_nil (s := s) (i := i) (by omega)
 rw [hg]
 refine Zk ?_
 refine Zp 4 ?_
 refine AWp.ret ?_
 simp only [go_sem]
 try simp []
attribute [local go_sem] icast8 decide_true decide_false in
theorem wordEnd_c (T : Tbl) (s : Tx) (i : Nat) (hs : s.length ≤ 1048576) (hi : i ≤ s.length) : PC Tryz.prog T 183 [.d (.str s), .d (.int .i64 (i : Nat))] (.d (.int .i64 ((i + ((s.drop i).takeWhile wdB).length : Nat) : Int))) := by
 refine ⟨Tryz.call183, PCall.enterS Tryz.func183 rfl Tryz.ntmps183 rfl fun hb => ?_⟩
 simp only [go_sem, Tryz.results183]
 refine Zp 3 ?_
 refine Zs (AWp.block (Zy ?_))
 refine Zl 1 2 (fun n lc hc => ∃ (j : Nat), n = s.length - j ∧ EqS lc [(1, .d (.int .i64 (j : Nat)))] ∧ EqS hc (⟨[], []⟩) ∧ (i ≤ j) ∧ (j ≤ s.length) ∧ (TwI wdB s i j)) ?_ ?_
 · refine ⟨_, i, rfl, ZE, ZE, ?_, ?_, ?_⟩
   all_goals (first | omega | exact TwI.z _ _ _)
 rintro _ _ _ ⟨j, rfl, ⟨rfl⟩, ⟨rfl⟩, h1, h2, h3⟩
 refine Zy ?_
 refine Zs ?_
 rcases Nat.lt_or_ge j s.length with hlt | hlt
 ·
  have hki : ((j : Int) < (s.length : Int)) = True := by simp; omega
  refine Zx ?_
  simp only [go_sem, hki]
  refine ZQ (fun hg => rlet_c T _) ?_
  simp only [go_sem, hki]
  refine ZQ (fun hg => rdig_c T _) ?_
  refine Zy ?_
  (repeat (with_reducible refine And.intro ZS ?_))
  refine Zm 131075 ?_
  refine Zc (fun hc0 => ?_) fun hc0 => ?_
  ·
   have hsb : wdB (s.getD j 0) = true := by simpa [wdB] using hc0
   refine Zk ?_
   refine AWp.block (Zr (blkQ_n (thenQ_n ?_)))
   refine Zf 1 2 (.e ⟨_, ZM, j + 1, rfl, ZE, ZE, ?_, ?_, ?_⟩)
   · omega
   · omega
   · exact h3.s h1 hlt hsb
  obtain ⟨e1, e2⟩ := h3.e h1 h2 (fun h9 => by have h8 := h9.2; simp [wdB] at h8 hc0; grind)
  refine AWp.exit (thenQ_e (thenQ_e (blkQ_e (thenQ_n ?_))))
  refine Zp 4 ?_
  refine AWp.ret ?_
  simp only [go_sem]
  rw [e2, show i + (j - i) = j by omega]; try simp [LeA, LeD]
 have hki : ((j : Int) < (s.length : Int)) = False := by simp; omega
 refine Zx ?_
 simp only [go_sem, hki]
 refine ZQ (fun hg => rlet_c T _) ?_
 simp only [go_sem, hki]
 (repeat (with_reducible refine And.intro ZS ?_))
 refine DW.pcgr rfl rfl rfl rfl rfl (fun hg => rdig_c T _) (fun hg => by (try simp only [go_sem]) <;> first | exact hg | (exfalso; simp at hg; done) | (simpa using hg) | grind) rfl rfl ?_
 refine Zy ?_
 (repeat (with_reducible refine And.intro ZS ?_))
 refine Zm 131075 ?_
 refine Zc (fun hc0 => ?_) fun hc0 => ?_
 ·
  exact absurd hc0 (by first | (simp; done) | omega | (simp [*]; done))
 obtain ⟨e1, e2⟩ := h3.e h1 h2 (fun h9 => by omega)
 refine AWp.exit (thenQ_e (thenQ_e (blkQ_e (thenQ_n ?_))))
 refine Zp 4 ?_
 refine AWp.ret ?_
 simp only [go_sem]
 rw [e2, show i + (j - i) = j by omega]; try simp [LeA, LeD]
end
section
theorem bl_at {s : Tx} {j : Nat} (h : j < s.length) (hb : blB (s.getD j 0) = true) : sil 0 [] (s.drop j) = sil 0 [] (s.drop (j + 1)) := by rw [getD_at h, sil_bl hb]
theorem sk_tok2 {s : Tx} {j : Nat} (hj : j < s.length) (hb : blB (s.getD j 0) = false) (h1 : ¬ ((s.getD j 0).toNat : Int) = 35) (h2 : ¬ ((s.getD j 0).toNat : Int) = 47 ∨ ¬ ((s.getD (j + 1) 0).toNat : Int) = 42) : sil 0 [] (s.drop j) = (s.drop j, true) := by
 have e := getD_at hj
 rw [e]
 refine sil_tok hb (fun h9 => h1 (by rw [h9]; rfl)) fun ⟨h8, h9⟩ => ?_
 rcases h2 with h2 | h2
 ·exact h2 (by rw [h8]; rfl)
 ·rcases Nat.lt_or_ge (j + 1) s.length with h7 | h7
  ·rw [getD_at h7] at h9
   simp at h9
   exact h2 (by simp only [List.getD_eq_getElem?_getD, h9]; rfl)
  ·rw [List.drop_eq_nil_of_le h7] at h9; cases h9
theorem com_at {s : Tx} {j : Nat} (h1 : ((s.getD j 0).toNat : Int) = 47) (h2 : ((s.getD (j + 1) 0).toNat : Int) = 42) : j + 1 < s.length ∧ sil 0 [] (s.drop j) = sil 2 (s.drop j) (s.drop (j + 2)) := by
 obtain ⟨l1, e1⟩ := head_at (n := 47) h1 (by decide) (by decide)
 obtain ⟨l2, e2⟩ := head_at (n := 42) h2 (by decide) (by decide)
 refine ⟨l2, ?_⟩
 rw [e1, e2]
 exact sil_com
theorem hash_at {s : Tx} {j : Nat} (h : ((s.getD j 0).toNat : Int) = 35) : j < s.length ∧ sil 0 [] ((s.drop j).dropWhile nlB) = sil 0 [] (s.drop j) := by
 obtain ⟨l1, e1⟩ := head_at (n := 35) h (by decide) (by decide)
 exact ⟨l1, by rw [e1]; exact sil_hash.symm⟩
theorem nl_step {s : Tx} {q : Nat} (h : q < s.length) (hc : ¬ ((s.getD q 0).toNat : Int) = 10) : (s.drop q).dropWhile nlB = (s.drop (q + 1)).dropWhile nlB := by
 rw [getD_at h, List.dropWhile_cons_of_pos (by simp only [nlB, hc, decide_false]; rfl)]
theorem nl_end {s : Tx} {q : Nat} (h : ¬ (q < s.length ∧ ¬ ((s.getD q 0).toNat : Int) = 10)) : (s.drop q).dropWhile nlB = s.drop q := by
 rcases Nat.lt_or_ge q s.length with h9 | h9
 ·have hc : ((s.getD q 0).toNat : Int) = 10 := Classical.byContradiction fun h8 => h ⟨h9, h8⟩
  rw [getD_at h9, List.dropWhile_cons_of_neg (by simp only [nlB, hc, decide_true]; decide)]
 ·rw [List.drop_eq_nil_of_le h9]; rfl
theorem nl_far {s : Tx} {j q : Nat} (h1 : j ≤ q) (hj : j < s.length) (hc : ((s.getD j 0).toNat : Int) = 35) (hqe : ¬ (q < s.length ∧ ¬ ((s.getD q 0).toNat : Int) = 10)) : j < q := by
 rcases Nat.lt_or_ge j q with h | h
 ·exact h
 ·obtain rfl : q = j := by omega
  exact absurd ⟨hj, by omega⟩ hqe
theorem c_step {s st : Tx} {e : Nat} (h : e + 1 < s.length) (hc : ¬ ((s.getD e 0).toNat : Int) = 42 ∨ ¬ ((s.getD (e + 1) 0).toNat : Int) = 47) : sil 2 st (s.drop e) = sil 2 st (s.drop (e + 1)) := by
 rw [getD_at (by omega : e < s.length), sil]
 intro r e1 e2
 rw [getD_at h] at e2
 injection e2 with e2 e3
 rcases hc with hc | hc
 ·exact hc (by rw [e1]; rfl)
 ·exact hc (by rw [e2]; rfl)
theorem c_out {s st : Tx} {e : Nat} (h : s.length ≤ e + 1) : sil 2 st (s.drop e) = (st, false) := by
 rcases Nat.lt_or_ge e s.length with h9 | h9
 ·rw [getD_at h9, List.drop_eq_nil_of_le h, sil2_ix]
  simp [Lib.index, List.isPrefixOf]
 ·rw [List.drop_eq_nil_of_le h9, sil2_ix]; rfl
theorem c_hit {s st : Tx} {e : Nat} (h1 : ((s.getD e 0).toNat : Int) = 42) (h2 : ((s.getD (e + 1) 0).toNat : Int) = 47) : sil 2 st (s.drop e) = sil 0 [] (s.drop (e + 2)) := by
 obtain ⟨l1, e1⟩ := head_at (n := 42) h1 (by decide) (by decide)
 obtain ⟨l2, e2⟩ := head_at (n := 47) h2 (by decide) (by decide)
 rw [e1, e2]
 show sil 2 st (42 :: 47 :: s.drop (e + 1 + 1)) = _
 rw [sil]
theorem dv_snoc (l : Tx) (c : UInt8) : dcV (l ++ [c]) = dcV l * 10 + (c.toNat - 48) := by simp [dcV, dvF]
theorem tk_snoc {s : Tx} {i j : Nat} (hij : i ≤ j) (hj : j < s.length) : (s.drop i).take (j + 1 - i) = (s.drop i).take (j - i) ++ [s.getD j 0] := by
 rw [show j + 1 - i = (j - i) + 1 by omega, List.take_succ_eq_append_getElem (by simp; omega)]
 simp [show i + (j - i) = j by omega, List.getD, hj]
theorem tw_take {s : Tx} {i j : Nat} (hij : i ≤ j) (hj : j ≤ s.length) : (s.take j).drop i = (s.drop i).take (j - i) := by rw [List.drop_take]
theorem pl_at {s : Tx} {j : Nat} (h : j ≤ s.length) : s.length - (s.drop j).length = j := by simp; omega
attribute [local go_sem] icast8 decide_true decide_false in
theorem silent_c (T : Tbl) (s : Tx) (i : Nat) (hs : s.length ≤ 1048576) (hi : i ≤ s.length) : PC Tryz.prog T 108 [.d (.str s), .d (.int .i64 (i : Nat))] (.tup [.d (.int .i64 ((plS s i : Nat) : Int)), .d (.bool (okP s i))]) := by
 refine ⟨Tryz.call108, PCall.enterS Tryz.func108 rfl Tryz.ntmps108 rfl fun hb => ?_⟩
 simp only [go_sem, Tryz.results108]
 refine Zp 3 ?_
 refine Zs (AWp.block (Zy ?_))
 refine Zl 1 2 (fun n lc hc => ∃ (j : Nat), n = s.length - j ∧ EqS lc [(1, .d (.int .i64 (j : Nat)))] ∧ EqS hc (⟨[], []⟩) ∧ (i ≤ j) ∧ (j ≤ s.length) ∧ (sil 0 [] (s.drop j) = sil 0 [] (s.drop i))) ?_ ?_
 · refine ⟨_, i, rfl, ZE, ZE, ?_, ?_, ?_⟩
   all_goals (first | omega | rfl)
 rintro _ _ _ ⟨j, rfl, ⟨rfl⟩, ⟨rfl⟩, h1, h2, h3⟩
 refine Zy ?_
 refine Zs (Zp 35 ?_)
 refine Zc (fun hc0 => ?_) fun hc0 => ?_
 ·
  have hlt : j < s.length := by omega
  have hki : (j : Int) < (s.length : Int) := by omega
  refine Zk ?_
  refine AWp.block (Zp 7 ?_)
  refine Zs (Zp 65543 ?_)
  refine Zc (fun hc1 => ?_) fun hc1 => ?_
  ·
   have hbl : blB (s.getD j 0) = true := by simp only [blB, Bool.or_eq_true, decide_eq_true_eq]; omega
   refine Zp 3 ?_
   refine AWp.exit (thenQ_e (blkQ_e (thenQ_n ?_)))
   refine Zf 1 2 (.e ⟨_, ?_, (j + 1), rfl, ZE, ZE, ?_, ?_, ?_⟩)
   · first | omega | (simp; omega) | (omega)
   · omega
   · omega
   · rw [← bl_at hlt hbl, h3]
  have hbl : blB (s.getD j 0) = false := by simp only [blB, Bool.or_eq_false_iff, decide_eq_false_iff_not]; omega
  refine Zk ?_
  refine Zs (Zp 39 ?_)
  refine Zc (fun hc2 => ?_) fun hc2 => ?_
  ·
   obtain ⟨_, hh⟩ := hash_at hc2
   refine Zs (AWp.block (Zn 3 ?_))
   refine Zl 1 2 (fun n lc hc => ∃ (q : Nat), n = s.length - q ∧ EqS lc [(1, .d (.int .i64 (q : Nat)))] ∧ EqS hc (⟨[], []⟩) ∧ (j ≤ q) ∧ (q ≤ s.length) ∧ (sil 0 [] ((s.drop q).dropWhile nlB) = sil 0 [] (s.drop i))) ?_ ?_
   · refine ⟨_, j, rfl, ZE, ZE, ?_, ?_, ?_⟩
     all_goals (first | omega | exact hh.trans h3)
   rintro _ _ _ ⟨q, rfl, ⟨rfl⟩, ⟨rfl⟩, g1, g2, g3⟩
   refine Zy ?_
   refine Zs ?_
   rcases Nat.lt_or_ge q s.length with hq | hq
   ·
    have hkq : ((q : Int) < (s.length : Int)) = True := by simp; omega
    refine Zp 2051 ?_
    refine Zc (fun hc3 => ?_) fun hc3 => ?_
    ·
     have hqc : ¬ ((s.getD q 0).toNat : Int) = 10 := by first | exact hc3 | exact hc3.2 | omega
     refine Zk ?_
     refine AWp.block (Zr (blkQ_n (thenQ_n ?_)))
     refine Zf 1 2 (.e ⟨_, ZM, q + 1, rfl, ZE, ZE, ?_, ?_, ?_⟩)
     · omega
     · omega
     · rw [← nl_step hq hqc]; exact g3
    have hqe : ¬ (q < s.length ∧ ¬ ((s.getD q 0).toNat : Int) = 10) := fun h9 => h9.2 (by first | exact hc3 | omega)
    have hqj := nl_far g1 hlt hc2 hqe
    rw [nl_end hqe] at g3
    refine AWp.exit (thenQ_e (thenQ_e (blkQ_e (thenQ_n ?_))))
    refine AWp.exit (thenQ_e (blkQ_e (thenQ_n ?_)))
    refine Zf 1 2 (.e ⟨_, ?_, q, rfl, ZE, ZE, ?_, ?_, ?_⟩)
    · first | omega | (simp; omega) | (omega)
    · omega
    · omega
    · exact g3
   have hkq : ((q : Int) < (s.length : Int)) = False := by simp; omega
   refine Zp 2051 ?_
   refine Zc (fun hc3 => ?_) fun hc3 => ?_
   ·
    exact absurd hc3 (by first | (simp; done) | omega | (simp [*]; done))
   have hqj : j < q := by omega
   rw [nl_end (fun h9 => by omega)] at g3
   refine AWp.exit (thenQ_e (thenQ_e (blkQ_e (thenQ_n ?_))))
   refine AWp.exit (thenQ_e (blkQ_e (thenQ_n ?_)))
   refine Zf 1 2 (.e ⟨_, ?_, q, rfl, ZE, ZE, ?_, ?_, ?_⟩)
   · first | omega | (simp; omega) | (omega)
   · omega
   · omega
   · exact g3
  refine Zk ?_
  refine Zs (Zx (Zy ?_))
  (repeat (with_reducible refine And.intro ZS ?_))
  refine DW.pcgr rfl rfl rfl rfl rfl (fun hg => rat_c T _ _) (fun hg => by (try simp only [go_sem]) <;> first | exact hg | (exfalso; simp at hg; done) | (simpa using hg) | grind) rfl rfl ?_
  refine Zy ?_
  (repeat (with_reducible refine And.intro ZS ?_))
  refine Zm 4099 ?_
  refine Zc (fun hc4 => ?_) fun hc4 => ?_
  ·
   have htk := sk_tok2 hlt hbl hc2 (by omega)
   obtain ⟨p1, p2⟩ := sil_at h2 (h3.symm.trans htk)
   refine Zp 12 ?_
   refine AWp.ret ?_
   simp only [go_sem]
   rw [p1, p2]; try simp []
  obtain ⟨l1, hcm⟩ := com_at (s := s) (j := j) (by omega) (by omega)
  refine Zk ?_
  refine Zp 7 ?_
  refine Zs (AWp.block (Zy ?_))
  refine Zl 3 4 (fun n lc hc => ∃ (e : Nat), n = s.length - e ∧ EqS lc [(7, .d (.int .i64 (e : Nat)))] ∧ EqS hc (⟨[], []⟩) ∧ (j + 2 ≤ e) ∧ (e ≤ s.length) ∧ (sil 2 (s.drop j) (s.drop e) = sil 0 [] (s.drop i))) ?_ ?_
  · refine ⟨_, (j + 2), rfl, ZE, ZE, ?_, ?_, ?_⟩
    all_goals (first | omega | exact hcm.symm.trans h3)
  rintro _ _ _ ⟨e, rfl, ⟨rfl⟩, ⟨rfl⟩, g1, g2, g3⟩
  refine Zy ?_
  refine Zs ?_
  rcases Nat.lt_or_ge (e + 1) s.length with he | he
  ·
   have hke : (((e + 1 : Nat) : Int) < (s.length : Int)) = True := by simp; omega
   have hke1 : ((e : Int) < (s.length : Int)) = True := by simp; omega
   refine Zp 1048583 ?_
   refine Zc (fun hc5 => ?_) fun hc5 => ?_
   ·
    have hec : ¬ ((s.getD e 0).toNat : Int) = 42 ∨ ¬ ((s.getD (e + 1) 0).toNat : Int) = 47 := by first | exact hc5 | exact hc5.2 | omega | grind
    refine Zk ?_
    refine AWp.block (Zr (blkQ_n (thenQ_n ?_)))
    refine Zf 3 4 (.e ⟨_, ZM, e + 1, rfl, ZE, ZE, ?_, ?_, ?_⟩)
    · omega
    · omega
    · rw [← c_step he hec]; exact g3
   refine AWp.exit (thenQ_e (thenQ_e (blkQ_e (thenQ_n ?_))))
   refine Zs (Zp 263 ?_)
   refine Zc (fun hc6 => ?_) fun hc6 => ?_
   ·
    rw [c_out (by omega)] at g3
    obtain ⟨p1, p2⟩ := sil_at h2 g3.symm
    refine Zp 12 ?_
    refine AWp.ret ?_
    simp only [go_sem]
    rw [p1, p2]; try simp []
   have hce : ((s.getD e 0).toNat : Int) = 42 ∧ ((s.getD (e + 1) 0).toNat : Int) = 47 := by first | exact hc5 | omega | grind
   rw [c_hit hce.1 hce.2] at g3
   refine Zk ?_
   refine Zr (blkQ_n (thenQ_n ?_))
   refine Zf 1 2 (.e ⟨_, ?_, (e + 2), rfl, ZE, ZE, ?_, ?_, ?_⟩)
   · first | omega | (simp; omega) | (omega)
   · omega
   · omega
   · exact g3
  have hke : (((e + 1 : Nat) : Int) < (s.length : Int)) = False := by simp; omega
  refine Zp 1048583 ?_
  refine Zc (fun hc5 => ?_) fun hc5 => ?_
  ·
   exact absurd hc5 (by first | (simp; done) | omega | (simp [*]; done))
  refine AWp.exit (thenQ_e (thenQ_e (blkQ_e (thenQ_n ?_))))
  refine Zs (Zp 263 ?_)
  refine Zc (fun hc6 => ?_) fun hc6 => ?_
  ·
   rw [c_out (by omega)] at g3
   obtain ⟨p1, p2⟩ := sil_at h2 g3.symm
   refine Zp 12 ?_
   refine AWp.ret ?_
   simp only [go_sem]
   rw [p1, p2]; try simp []
  exact absurd hc6 (by first | (simp; done) | omega | (simp [*]; done))
 have hnl : sil 0 [] (s.drop j) = (s.drop j, true) := by rw [List.drop_eq_nil_of_le (by omega)]; exact sil_nil
 obtain ⟨p1, p2⟩ := sil_at h2 (h3.symm.trans hnl)
 refine AWp.exit (thenQ_e (thenQ_e (blkQ_e (thenQ_n ?_))))
 refine Zp 12 ?_
 refine AWp.ret ?_
 simp only [go_sem]
 rw [p1, p2]; try simp []
end
section
theorem wd_at {s : Tx} {j : Nat} {x : Bool} (h : wdB (s.getD j 0) = x) : wdB ((s.drop j).headD 0) = x := by rw [hd_at]; exact h
theorem dig_48 {c : UInt8} (h : digB c = true) : 48 ≤ (c.toNat : Int) ∧ (c.toNat : Int) ≤ 57 := by simpa [digB] using h
attribute [local go_sem] icast8 decide_true decide_false in
theorem numAt_c (T : Tbl) (s : Tx) (i : Nat) (hs : s.length ≤ 1048576) (hi : i < s.length) : PC Tryz.prog T 185 [.d (.str s), .d (.int .i64 (i : Nat))] (.tup [.d (.int .i64 (numS (s.drop i)).1), .d (.int .i64 ((s.length - (numS (s.drop i)).2.2.length : Nat) : Int)), .d (.int .i64 (numS (s.drop i)).2.1)]) := by
 refine ⟨Tryz.call185, PCall.enterS Tryz.func185 rfl Tryz.ntmps185 rfl fun hb => ?_⟩
 simp only [go_sem, Tryz.results185]
 refine Zp 3 ?_
 refine Zp 7 ?_
 refine Zp 15 ?_
 refine Zs (AWp.block (Zy ?_))
 refine Zl 1 14 (fun n lc hc => ∃ (j v : Nat) (bg : Bool), n = s.length - j ∧ EqS lc [(1, .d (.int .i64 (j : Nat))), (7, .d (.int .i64 (v : Nat))), (8, .d (.bool bg))] ∧ EqS hc (⟨[], []⟩) ∧ (i ≤ j) ∧ (j ≤ s.length) ∧ (TwI digB s i j) ∧ (v ≤ 2147483647) ∧ (bg = false → v = dcV ((s.drop i).take (j - i))) ∧ (bg = true → 2147483647 < dcV ((s.drop i).take (j - i)))) ?_ ?_
 · refine ⟨_, i, 0, false, rfl, ZE, ZE, ?_, ?_, ?_, ?_, ?_, ?_⟩
   all_goals (first | omega | exact TwI.z _ _ _ | (intro _; simp; done) | (intro _; simp [dcV, dvF]; done) | (intro h; cases h))
 rintro _ _ _ ⟨j, v, bg, rfl, ⟨rfl⟩, ⟨rfl⟩, h1, h2, h3, h4, h5, h6⟩
 refine Zy ?_
 refine Zs ?_
 rcases Nat.lt_or_ge j s.length with hlt | hlt
 ·
  have hki : ((j : Int) < (s.length : Int)) = True := by simp; omega
  refine Zx ?_
  simp only [go_sem, hki]
  refine ZQ (fun hg => rdig_c T _) ?_
  refine Zy ?_
  refine Zm 8207 ?_
  refine Zc (fun hc0 => ?_) fun hc0 => ?_
  ·
   have hdg : digB (s.getD j 0) = true := by first | exact hc0 | exact hc0.2
   obtain ⟨d1, d2⟩ := dig_48 hdg
   obtain ⟨v2, hv2⟩ : ∃ v2 : Nat, v2 = v * 10 + ((s.getD j 0).toNat - 48) := ⟨_, rfl⟩
   have hv3 : 10 * (v : Int) + (((s.getD j 0).toNat : Int) - 48) = ((v2 : Nat) : Int) := by omega
   have hwr : IntKind.i64.wrap (((s.getD j 0).toNat : Int) - 48) = ((s.getD j 0).toNat : Int) - 48 := inR_wrap ⟨by omega, by omega⟩
   refine Zk ?_
   refine AWp.block (Zp 15 ?_)
   refine Zs (Zp 47 ?_)
   refine Zc (fun hc1 => ?_) fun hc1 => ?_
   ·
    refine Zp 11 ?_
    refine Zr (thenQ_n ?_)
    refine Zr (blkQ_n (thenQ_n ?_))
    refine Zf 1 14 (.e ⟨_, ZM, j + 1, 0, true, rfl, ZE, ZE, ?_, ?_, ?_, ?_, ?_, ?_⟩)
    · omega
    · omega
    · exact h3.s h1 hlt hdg
    · omega
    · intro hb9; rw [tk_snoc h1 hlt, dv_snoc]; cases hb9
    · intro hb9; rw [tk_snoc h1 hlt, dv_snoc]; cases hbb : bg with | false => have := h5 hbb; omega | true => have := h6 hbb; omega
   refine Zk ?_
   refine Zr (blkQ_n (thenQ_n ?_))
   refine Zf 1 14 (.e ⟨_, ZM, j + 1, v2, bg, rfl, ZE, ZE, ?_, ?_, ?_, ?_, ?_, ?_⟩)
   · omega
   · omega
   · exact h3.s h1 hlt hdg
   · omega
   · intro hb9; rw [tk_snoc h1 hlt, dv_snoc]; have := h5 hb9; omega
   · intro hb9; rw [tk_snoc h1 hlt, dv_snoc]; have := h6 hb9; omega
  obtain ⟨e1, e2⟩ := h3.e h1 h2 (fun h9 => by have h8 := h9.2; rw [hc0] at h8; cases h8)
  rw [tw_take h1 h2] at e1
  rw [← e1] at h5 h6
  have hk0 := dw_at digB s i
  rw [e2, show i + (j - i) = j by omega] at hk0
  clear e1 e2
  refine AWp.exit (thenQ_e (thenQ_e (blkQ_e (thenQ_n ?_))))
  refine Zp 31 ?_
  refine Zs (Zx (Zy ?_))
  refine ZP (rat_c T _ _) ?_
  refine Zy ?_
  refine ZQ (fun hg => rat_c T _ _) ?_
  refine Zy ?_
  (repeat (with_reducible refine And.intro ZS ?_))
  refine Zm 16415 ?_
  refine Zc (fun hc2 => ?_) fun hc2 => ?_
  ·
   have hm := nM_10 (s := s) (k := j) (by omega)
   rw [← hk0] at hm
   have hkl : j < s.length := get_lt (by omega)
   refine Zp 31 ?_
   refine Zr (thenQ_n ?_)
   refine Zs (Zx (Zy ?_))
   refine ZP (rat_c T _ _) ?_
   refine Zy ?_
   refine ZP (rlet_c T _) ?_
   refine Zy ?_
   refine ZQ (fun hg => rat_c T _ _) ?_
   refine Zy ?_
   refine ZQ (fun hg => rdig_c T _) ?_
   refine Zy ?_
   (repeat (with_reducible refine And.intro ZS ?_))
   refine Zm 65566 ?_
   refine Zc (fun hc4 => ?_) fun hc4 => ?_
   ·
    have hw : wdB (s.getD (j + 1) 0) = true := by first | exact hc4 | (simp only [wdB, Bool.or_eq_true]; exact hc4)
    refine Zp 14 ?_
    refine AWp.ret ?_
    simp only [go_sem]
    rw [numS_3 hm (wd_at hw), pl_at (by omega)]; try simp []
   have hw : wdB (s.getD (j + 1) 0) = false := by first | exact hc4 | (simp only [wdB, Bool.or_eq_false_iff]; exact hc4)
   refine Zk ?_
   refine Zs ?_
   cases bg
   ·
    replace h5 := (h5 rfl).symm
    clear h6
    refine Zp 2059 ?_
    refine Zc (fun hc5 => ?_) fun hc5 => ?_
    ·
     have hx : limN 10 < dcV ((s.drop i).takeWhile digB) := by simp only [limN]; first | omega | (simp; omega)
     refine Zp 14 ?_
     refine AWp.ret ?_
     simp only [go_sem]
     rw [numS_6 hm (wd_at hw) hx, pl_at (by omega)]; try simp []
    have hx : ¬ limN 10 < dcV ((s.drop i).takeWhile digB) := by simp only [limN]; first | omega | (simp; omega)
    refine Zk ?_
    refine Zp 14 ?_
    refine AWp.ret ?_
    simp only [go_sem]
    rw [numS_0 hm (wd_at hw) hx, pl_at (by omega), h5]; simp [mulN]
   replace h6 := h6 rfl
   clear h5
   refine Zp 2059 ?_
   refine Zc (fun hc5 => ?_) fun hc5 => ?_
   ·
    have hx : limN 10 < dcV ((s.drop i).takeWhile digB) := by simp only [limN]; first | omega | (simp; omega)
    refine Zp 14 ?_
    refine AWp.ret ?_
    simp only [go_sem]
    rw [numS_6 hm (wd_at hw) hx, pl_at (by omega)]; try simp []
   exact absurd hc5 (by first | (simp; done) | omega | (simp [*]; done))
  refine Zx (Zy ?_)
  refine ZP (rat_c T _ _) ?_
  refine Zy ?_
  refine ZQ (fun hg => rat_c T _ _) ?_
  refine Zy ?_
  (repeat (with_reducible refine And.intro ZS ?_))
  refine Zm 32799 ?_
  refine Zc (fun hc3 => ?_) fun hc3 => ?_
  ·
   have hm := nM_20 (s := s) (k := j) (by omega) (by omega)
   rw [← hk0] at hm
   have hkl : j < s.length := get_lt (by omega)
   refine Zp 31 ?_
   refine Zr (thenQ_n ?_)
   refine Zs (Zx (Zy ?_))
   refine ZP (rat_c T _ _) ?_
   refine Zy ?_
   refine ZP (rlet_c T _) ?_
   refine Zy ?_
   refine ZQ (fun hg => rat_c T _ _) ?_
   refine Zy ?_
   refine ZQ (fun hg => rdig_c T _) ?_
   refine Zy ?_
   (repeat (with_reducible refine And.intro ZS ?_))
   refine Zm 65566 ?_
   refine Zc (fun hc4 => ?_) fun hc4 => ?_
   ·
    have hw : wdB (s.getD (j + 1) 0) = true := by first | exact hc4 | (simp only [wdB, Bool.or_eq_true]; exact hc4)
    refine Zp 14 ?_
    refine AWp.ret ?_
    simp only [go_sem]
    rw [numS_3 hm (wd_at hw), pl_at (by omega)]; try simp []
   have hw : wdB (s.getD (j + 1) 0) = false := by first | exact hc4 | (simp only [wdB, Bool.or_eq_false_iff]; exact hc4)
   refine Zk ?_
   refine Zs ?_
   cases bg
   ·
    replace h5 := (h5 rfl).symm
    clear h6
    refine Zp 2059 ?_
    refine Zc (fun hc5 => ?_) fun hc5 => ?_
    ·
     have hx : limN 20 < dcV ((s.drop i).takeWhile digB) := by simp only [limN]; first | omega | (simp; omega)
     refine Zp 14 ?_
     refine AWp.ret ?_
     simp only [go_sem]
     rw [numS_6 hm (wd_at hw) hx, pl_at (by omega)]; try simp []
    have hx : ¬ limN 20 < dcV ((s.drop i).takeWhile digB) := by simp only [limN]; first | omega | (simp; omega)
    refine Zk ?_
    refine Zp 14 ?_
    refine AWp.ret ?_
    simp only [go_sem]
    rw [numS_0 hm (wd_at hw) hx, pl_at (by omega), h5]; simp [mulN]
   replace h6 := h6 rfl
   clear h5
   refine Zp 2059 ?_
   refine Zc (fun hc5 => ?_) fun hc5 => ?_
   ·
    have hx : limN 20 < dcV ((s.drop i).takeWhile digB) := by simp only [limN]; first | omega | (simp; omega)
    refine Zp 14 ?_
    refine AWp.ret ?_
    simp only [go_sem]
    rw [numS_6 hm (wd_at hw) hx, pl_at (by omega)]; try simp []
   exact absurd hc5 (by first | (simp; done) | omega | (simp [*]; done))
  have hm := nM_0 (s := s) (k := j) (by omega) (by omega)
  replace hm : numM ((s.drop i).dropWhile digB) = (0, s.drop j) := by rw [hk0]; exact hm
  refine Zk ?_
  refine Zs (Zx (Zy ?_))
  refine ZP (rat_c T _ _) ?_
  refine Zy ?_
  refine ZP (rlet_c T _) ?_
  refine Zy ?_
  refine ZQ (fun hg => rat_c T _ _) ?_
  refine Zy ?_
  refine ZQ (fun hg => rdig_c T _) ?_
  refine Zy ?_
  (repeat (with_reducible refine And.intro ZS ?_))
  refine Zm 32798 ?_
  refine Zc (fun hc4 => ?_) fun hc4 => ?_
  ·
   have hw : wdB (s.getD j 0) = true := by first | exact hc4 | (simp only [wdB, Bool.or_eq_true]; exact hc4)
   refine Zp 14 ?_
   refine AWp.ret ?_
   simp only [go_sem]
   rw [numS_3 hm (wd_at hw), pl_at (by omega)]; try simp []
  have hw : wdB (s.getD j 0) = false := by first | exact hc4 | (simp only [wdB, Bool.or_eq_false_iff]; exact hc4)
  refine Zk ?_
  refine Zs ?_
  cases bg
  ·
   replace h5 := (h5 rfl).symm
   clear h6
   refine Zp 2059 ?_
   refine Zc (fun hc5 => ?_) fun hc5 => ?_
   ·
    have hx : limN 0 < dcV ((s.drop i).takeWhile digB) := by simp only [limN]; first | omega | (simp; omega)
    refine Zp 14 ?_
    refine AWp.ret ?_
    simp only [go_sem]
    rw [numS_6 hm (wd_at hw) hx, pl_at (by omega)]; try simp []
   have hx : ¬ limN 0 < dcV ((s.drop i).takeWhile digB) := by simp only [limN]; first | omega | (simp; omega)
   refine Zk ?_
   refine Zp 14 ?_
   refine AWp.ret ?_
   simp only [go_sem]
   rw [numS_0 hm (wd_at hw) hx, pl_at (by omega), h5]; simp [mulN]
  replace h6 := h6 rfl
  clear h5
  refine Zp 2059 ?_
  refine Zc (fun hc5 => ?_) fun hc5 => ?_
  ·
   have hx : limN 0 < dcV ((s.drop i).takeWhile digB) := by simp only [limN]; first | omega | (simp; omega)
   refine Zp 14 ?_
   refine AWp.ret ?_
   simp only [go_sem]
   rw [numS_6 hm (wd_at hw) hx, pl_at (by omega)]; try simp []
  exact absurd hc5 (by first | (simp; done) | omega | (simp [*]; done))
 have hki : ((j : Int) < (s.length : Int)) = False := by simp; omega
 refine Zx ?_
 simp only [go_sem, hki]
 refine ZQ (fun hg => rdig_c T _) ?_
 refine Zy ?_
 refine Zm 8207 ?_
 refine Zc (fun hc0 => ?_) fun hc0 => ?_
 ·
  exact absurd hc0 (by first | (simp; done) | omega | (simp [*]; done))
 obtain ⟨e1, e2⟩ := h3.e h1 h2 (fun h9 => by omega)
 rw [tw_take h1 h2] at e1
 rw [← e1] at h5 h6
 have hk0 := dw_at digB s i
 rw [e2, show i + (j - i) = j by omega] at hk0
 clear e1 e2
 refine AWp.exit (thenQ_e (thenQ_e (blkQ_e (thenQ_n ?_))))
 refine Zp 31 ?_
 refine Zs (Zx (Zy ?_))
 refine ZP (rat_c T _ _) ?_
 refine Zy ?_
 refine ZQ (fun hg => rat_c T _ _) ?_
 refine Zy ?_
 (repeat (with_reducible refine And.intro ZS ?_))
 refine Zm 16415 ?_
 refine Zc (fun hc2 => ?_) fun hc2 => ?_
 ·
  have hm := nM_10 (s := s) (k := j) (by omega)
  rw [← hk0] at hm
  have hkl : j < s.length := get_lt (by omega)
  refine Zp 31 ?_
  refine Zr (thenQ_n ?_)
  refine Zs (Zx (Zy ?_))
  refine ZP (rat_c T _ _) ?_
  refine Zy ?_
  refine ZP (rlet_c T _) ?_
  refine Zy ?_
  refine ZQ (fun hg => rat_c T _ _) ?_
  refine Zy ?_
  refine ZQ (fun hg => rdig_c T _) ?_
  refine Zy ?_
  (repeat (with_reducible refine And.intro ZS ?_))
  refine Zm 65566 ?_
  refine Zc (fun hc4 => ?_) fun hc4 => ?_
  ·
   have hw : wdB (s.getD (j + 1) 0) = true := by first | exact hc4 | (simp only [wdB, Bool.or_eq_true]; exact hc4)
   refine Zp 14 ?_
   refine AWp.ret ?_
   simp only [go_sem]
   rw [numS_3 hm (wd_at hw), pl_at (by omega)]; try simp []
  have hw : wdB (s.getD (j + 1) 0) = false := by first | exact hc4 | (simp only [wdB, Bool.or_eq_false_iff]; exact hc4)
  refine Zk ?_
  refine Zs ?_
  cases bg
  ·
   replace h5 := (h5 rfl).symm
   clear h6
   refine Zp 2059 ?_
   refine Zc (fun hc5 => ?_) fun hc5 => ?_
   ·
    have hx : limN 10 < dcV ((s.drop i).takeWhile digB) := by simp only [limN]; first | omega | (simp; omega)
    refine Zp 14 ?_
    refine AWp.ret ?_
    simp only [go_sem]
    rw [numS_6 hm (wd_at hw) hx, pl_at (by omega)]; try simp []
   have hx : ¬ limN 10 < dcV ((s.drop i).takeWhile digB) := by simp only [limN]; first | omega | (simp; omega)
   refine Zk ?_
   refine Zp 14 ?_
   refine AWp.ret ?_
   simp only [go_sem]
   rw [numS_0 hm (wd_at hw) hx, pl_at (by omega), h5]; simp [mulN]
  replace h6 := h6 rfl
  clear h5
  refine Zp 2059 ?_
  refine Zc (fun hc5 => ?_) fun hc5 => ?_
  ·
   have hx : limN 10 < dcV ((s.drop i).takeWhile digB) := by simp only [limN]; first | omega | (simp; omega)
   refine Zp 14 ?_
   refine AWp.ret ?_
   simp only [go_sem]
   rw [numS_6 hm (wd_at hw) hx, pl_at (by omega)]; try simp []
  exact absurd hc5 (by first | (simp; done) | omega | (simp [*]; done))
 refine Zx (Zy ?_)
 refine ZP (rat_c T _ _) ?_
 refine Zy ?_
 refine ZQ (fun hg => rat_c T _ _) ?_
 refine Zy ?_
 (repeat (with_reducible refine And.intro ZS ?_))
 refine Zm 32799 ?_
 refine Zc (fun hc3 => ?_) fun hc3 => ?_
 ·
  have hm := nM_20 (s := s) (k := j) (by omega) (by omega)
  rw [← hk0] at hm
  have hkl : j < s.length := get_lt (by omega)
  refine Zp 31 ?_
  refine Zr (thenQ_n ?_)
  refine Zs (Zx (Zy ?_))
  refine ZP (rat_c T _ _) ?_
  refine Zy ?_
  refine ZP (rlet_c T _) ?_
  refine Zy ?_
  refine ZQ (fun hg => rat_c T _ _) ?_
  refine Zy ?_
  refine ZQ (fun hg => rdig_c T _) ?_
  refine Zy ?_
  (repeat (with_reducible refine And.intro ZS ?_))
  refine Zm 65566 ?_
  refine Zc (fun hc4 => ?_) fun hc4 => ?_
  ·
   have hw : wdB (s.getD (j + 1) 0) = true := by first | exact hc4 | (simp only [wdB, Bool.or_eq_true]; exact hc4)
   refine Zp 14 ?_
   refine AWp.ret ?_
   simp only [go_sem]
   rw [numS_3 hm (wd_at hw), pl_at (by omega)]; try simp []
  have hw : wdB (s.getD (j + 1) 0) = false := by first | exact hc4 | (simp only [wdB, Bool.or_eq_false_iff]; exact hc4)
  refine Zk ?_
  refine Zs ?_
  cases bg
  ·
   replace h5 := (h5 rfl).symm
   clear h6
   refine Zp 2059 ?_
   refine Zc (fun hc5 => ?_) fun hc5 => ?_
   ·
    have hx : limN 20 < dcV ((s.drop i).takeWhile digB) := by simp only [limN]; first | omega | (simp; omega)
    refine Zp 14 ?_
    refine AWp.ret ?_
    simp only [go_sem]
    rw [numS_6 hm (wd_at hw) hx, pl_at (by omega)]; try simp []
   have hx : ¬ limN 20 < dcV ((s.drop i).takeWhile digB) := by simp only [limN]; first | omega | (simp; omega)
   refine Zk ?_
   refine Zp 14 ?_
   refine AWp.ret ?_
   simp only [go_sem]
   rw [numS_0 hm (wd_at hw) hx, pl_at (by omega), h5]; simp [mulN]
  replace h6 := h6 rfl
  clear h5
  refine Zp 2059 ?_
  refine Zc (fun hc5 => ?_) fun hc5 => ?_
  ·
   have hx : limN 20 < dcV ((s.drop i).takeWhile digB) := by simp only [limN]; first | omega | (simp; omega)
   refine Zp 14 ?_
   refine AWp.ret ?_
   simp only [go_sem]
   rw [numS_6 hm (wd_at hw) hx, pl_at (by omega)]; try simp []
  exact absurd hc5 (by first | (simp; done) | omega | (simp [*]; done))
 have hm := nM_0 (s := s) (k := j) (by omega) (by omega)
 replace hm : numM ((s.drop i).dropWhile digB) = (0, s.drop j) := by rw [hk0]; exact hm
 refine Zk ?_
 refine Zs (Zx (Zy ?_))
 refine ZP (rat_c T _ _) ?_
 refine Zy ?_
 refine ZP (rlet_c T _) ?_
 refine Zy ?_
 refine ZQ (fun hg => rat_c T _ _) ?_
 refine Zy ?_
 refine ZQ (fun hg => rdig_c T _) ?_
 refine Zy ?_
 (repeat (with_reducible refine And.intro ZS ?_))
 refine Zm 32798 ?_
 refine Zc (fun hc4 => ?_) fun hc4 => ?_
 ·
  have hw : wdB (s.getD j 0) = true := by first | exact hc4 | (simp only [wdB, Bool.or_eq_true]; exact hc4)
  refine Zp 14 ?_
  refine AWp.ret ?_
  simp only [go_sem]
  rw [numS_3 hm (wd_at hw), pl_at (by omega)]; try simp []
 have hw : wdB (s.getD j 0) = false := by first | exact hc4 | (simp only [wdB, Bool.or_eq_false_iff]; exact hc4)
 refine Zk ?_
 refine Zs ?_
 cases bg
 ·
  replace h5 := (h5 rfl).symm
  clear h6
  refine Zp 2059 ?_
  refine Zc (fun hc5 => ?_) fun hc5 => ?_
  ·
   have hx : limN 0 < dcV ((s.drop i).takeWhile digB) := by simp only [limN]; first | omega | (simp; omega)
   refine Zp 14 ?_
   refine AWp.ret ?_
   simp only [go_sem]
   rw [numS_6 hm (wd_at hw) hx, pl_at (by omega)]; try simp []
  have hx : ¬ limN 0 < dcV ((s.drop i).takeWhile digB) := by simp only [limN]; first | omega | (simp; omega)
  refine Zk ?_
  refine Zp 14 ?_
  refine AWp.ret ?_
  simp only [go_sem]
  rw [numS_0 hm (wd_at hw) hx, pl_at (by omega), h5]; simp [mulN]
 replace h6 := h6 rfl
 clear h5
 refine Zp 2059 ?_
 refine Zc (fun hc5 => ?_) fun hc5 => ?_
 ·
  have hx : limN 0 < dcV ((s.drop i).takeWhile digB) := by simp only [limN]; first | omega | (simp; omega)
  refine Zp 14 ?_
  refine AWp.ret ?_
  simp only [go_sem]
  rw [numS_6 hm (wd_at hw) hx, pl_at (by omega)]; try simp []
 exact absurd hc5 (by first | (simp; done) | omega | (simp [*]; done))
end
section
def quoV (s : Tx) (i : Nat) : Tx × Nat × Bool := match quoT (s.drop (i + 1)) with
 | some p => (p.1, s.length - p.2.length, true)
 | none => ([], s.length, false)
theorem quoV_s {s t : Tx} {i j : Nat} (h : quoT (s.drop (i + 1)) = some (t, s.drop j)) (hj : j ≤ s.length) : quoV s i = (t, j, true) := by rw [quoV, h]; simp only [pl_at hj]
theorem quoV_n {s : Tx} {i : Nat} (h : quoT (s.drop (i + 1)) = none) : quoV s i = ([], s.length, false) := by rw [quoV, h]
attribute [local go_sem] icast8 bytesOf_byteRows brOne brApp in
theorem strAt_c (T : Tbl) (s : Tx) (i : Nat) (hs : s.length ≤ 1048576) (hi : i < s.length) : PC Tryz.prog T 186 [.d (.str s), .d (.int .i64 (i : Nat))] (.tup [.d (.str (quoV s i).1), .d (.int .i64 ((quoV s i).2.1 : Nat)), .d (.bool (quoV s i).2.2)]) := by
 refine ⟨Tryz.call186, PCall.enterS Tryz.func186 rfl Tryz.ntmps186 rfl fun hb => ?_⟩
 simp only [go_sem, Tryz.results186]
 refine Zp 3 ?_
 refine Zp 7 ?_
 refine Zs (Zp 13 ?_)
 refine AWp.block (Zy ?_)
 refine AWp.ownNilS 7 1 rfl rfl (by decide) fun w0 fw0 => ?_
 try simp only [freshT] at fw0
 refine Zy ?_
 refine Zl 1 6 (fun n lc hc => ∃ (j w : Nat) (X : Tx), n = s.length - j ∧ EqS lc [(7, .own w 1 (byteRows X)), (8, .d (.int .i64 (j : Nat)))] ∧ EqS hc (⟨[], [w]⟩) ∧ (i + 1 ≤ j) ∧ (j ≤ s.length) ∧ (QI s i X j) ∧ (X.length + 1 ≤ j)) ?_ ?_
 · refine ⟨_, i + 1, w0, [], rfl, ZE, ZE, ?_, ?_, ?_, ?_⟩
   all_goals (first | omega | exact QI.z _ _ | (simp; done))
 rintro _ _ _ ⟨j, w, X, rfl, ⟨rfl⟩, ⟨rfl⟩, h1, h2, h3, h4⟩
 refine Zy ?_
 refine Zs (Zp 71 ?_)
 refine Zc (fun hc0 => ?_) fun hc0 => ?_
 ·
  have hlt : j < s.length := by omega
  have hki : (j : Int) < (s.length : Int) := by omega
  refine Zk ?_
  refine Zs (AWp.block (Zp 15 ?_))
  refine Zs (Zp 47 ?_)
  refine Zc (fun hc1 => ?_) fun hc1 => ?_
  ·
   refine Zp 14 ?_
   refine AWp.ret ?_
   simp only [go_sem]
   rw [quoV_s (h3.q hlt hc1) (by omega)]; simp []
  refine Zk ?_
  refine Zs (Zp 79 ?_)
  refine Zc (fun hc2 => ?_) fun hc2 => ?_
  ·
   refine Zp 7 ?_
   refine Zs (Zp 71 ?_)
   refine Zc (fun hc3 => ?_) fun hc3 => ?_
   ·
    refine Zp 14 ?_
    refine AWp.ret ?_
    simp only [go_sem]
    rw [quoV_n (h3.n (by omega) hlt hc2)]; simp []; omega
   have hl2 : j + 1 < s.length := by omega
   have hk2 : ((j + 1 : Nat) : Int) < (s.length : Int) := by omega
   refine Zk ?_
   refine Zr (thenQ_n ?_)
   refine Zm 15 ?_
   refine Zq fun K_ k_ => ?_
   refine Zy ?_
   refine ZW fun t1 ft1 => ?_
   try simp only [freshT] at ft1
   refine Zy ?_
   refine k_ _ _ (blkQ_n (thenQ_n ?_))
   refine Zm 7 ?_
   refine Zr (thenQ_n ?_)
   refine Ze 1 6 [] [] [] [t1] (.e ⟨_, ZM, (j + 1) + 1, t1, X ++ [s.getD (j + 1) 0], rfl, ZE, ZE, ?_, ?_, ?_, ?_⟩)
   · omega
   · omega
   · exact h3.s2 hl2 hc2
   · simp; omega
  refine Zk ?_
  refine Zq fun K_ k_ => ?_
  refine Zy ?_
  refine ZW fun t2 ft2 => ?_
  try simp only [freshT] at ft2
  refine Zy ?_
  refine k_ _ _ (blkQ_n (thenQ_n ?_))
  refine Zm 7 ?_
  refine Zr (thenQ_n ?_)
  refine Ze 1 6 [] [] [] [t2] (.e ⟨_, ZM, j + 1, t2, X ++ [s.getD j 0], rfl, ZE, ZE, ?_, ?_, ?_, ?_⟩)
  · omega
  · omega
  · exact h3.s1 hlt hc1 hc2
  · simp; omega
 refine AWp.exit (thenQ_e (thenQ_e (blkQ_e (thenQ_n ?_))))
 refine Zp 14 ?_
 refine AWp.ret ?_
 simp only [go_sem]
 rw [quoV_n (h3.e (by omega))]; simp []
def tkEnd (s : Tx) (i : Nat) : AV := if (tokS (s.drop i)).2.1 = 0 then .d (.int .i64 ((s.length - (tokS (s.drop i)).2.2.length : Nat) : Int)) else .any
theorem tkEnd_0 {s : Tx} {i j : Nat} {t : Tk} (h : tokS (s.drop i) = (t, 0, s.drop j)) (hj : j ≤ s.length) : tkEnd s i = .d (.int .i64 ((j : Nat) : Int)) := by rw [tkEnd, h, if_pos rfl]; simp only [pl_at hj]
theorem tkEnd_e {s : Tx} {i : Nat} (h : ¬ (tokS (s.drop i)).2.1 = 0) : tkEnd s i = .any := if_neg h
theorem nS_0 {l : Tx} (h : ¬ (numS l).2.1 = 0) : (numS l).1 = 0 := by
 unfold numS at *
 split
 ·rfl
 ·split
  ·rfl
  ·rename_i h1 h2
   rw [if_neg h1, if_neg h2] at h
   exact absurd rfl h
theorem nS_at {s : Tx} {i : Nat} (hi : i ≤ s.length) : ∃ j, j ≤ s.length ∧ (numS (s.drop i)).2.2 = s.drop j := by
 have h : (numS (s.drop i)).2.2 <:+ s := by
  have h1 : (numS (s.drop i)).2.2 = (numM ((s.drop i).dropWhile digB)).2 := by unfold numS; split <;> first | rfl | (split <;> rfl)
  have h2 : ∀ l : Tx, (numM l).2 <:+ l := fun l => by unfold numM; split; exact List.drop_suffix _ _; split; exact List.drop_suffix _ _; exact List.suffix_refl _
  rw [h1]
  exact (h2 _).trans ((List.dropWhile_suffix _).trans (List.drop_suffix _ _))
 exact ⟨_, Nat.sub_le _ _, List.suffix_iff_eq_drop.1 h⟩
theorem tw_cut (s : Tx) (i : Nat) {so : UInt8 → Bool} : List.drop i (List.take (i + ((s.drop i).takeWhile so).length) s) = (s.drop i).takeWhile so := by
 rw [List.drop_take, Nat.add_sub_cancel_left]
 exact (List.prefix_iff_eq_take.1 (List.takeWhile_prefix so)).symm
theorem quo_sub : ∀ (n : Nat) (l t r : Tx), l.length ≤ n → quoT l = some (t, r) → r <:+ l
 | _, [], t, r, _, h => by simp [quoT] at h
 | 0, c :: l, t, r, hn, h => by simp at hn
 | n + 1, c :: l, t, r, hn, h => by
  have hl : l.length ≤ n := by simp at hn; omega
  by_cases h1 : c = 34
  ·subst h1
   rw [quo_1] at h
   injection h with h
   injection h with e1 e2
   rw [← e2]; exact List.suffix_cons _ _
  by_cases h2 : c = 92
  ·subst h2
   cases l with
   | nil => rw [quo_2] at h; cases h
   | cons d q =>
    rw [quo_3] at h
    obtain ⟨p, hp, e⟩ := Option.map_eq_some_iff.1 h
    injection e with e1 e2
    have := quo_sub n q p.1 p.2 (by simp at hl; omega) hp
    rw [← e2]
    exact this.trans ((List.suffix_cons _ _).trans (List.suffix_cons _ _))
  ·rw [quo_4 h1 h2] at h
   obtain ⟨p, hp, e⟩ := Option.map_eq_some_iff.1 h
   injection e with e1 e2
   rw [← e2]
   exact (quo_sub n l p.1 p.2 hl hp).trans (List.suffix_cons _ _)
theorem quo_suf {s t r : Tx} {i : Nat} (h : quoT (s.drop (i + 1)) = some (t, r)) : ∃ j, j ≤ s.length ∧ r = s.drop j := by
 have := (quo_sub _ _ _ _ (Nat.le_refl _) h).trans (List.drop_suffix _ _)
 exact ⟨_, Nat.sub_le _ _, List.suffix_iff_eq_drop.1 this⟩
theorem tk_o3 {s : Tx} {i : Nat} (h0 : letB (s.getD i 0) = false) (h1 : ¬ ((s.getD i 0).toNat : Int) = 58 ∨ letB (s.getD (i + 1) 0) = false) (h2 : digB (s.getD i 0) = false) (h3 : ¬ ((s.getD i 0).toNat : Int) = 34) (h4 : mkB (s.getD i 0) = false) : tokS (s.drop i) = (zTk, 3, []) := by
 by_cases h9 : (s.getD i 0).toNat = 58
 ·exact tk_t3 (nl_n h0) h9 (by rcases h1 with h1 | h1; omega; rw [h1]; decide)
 ·exact tk_o (nl_n h0) h9 (nd_n h2) (by omega) (by rw [h4]; decide)
attribute [local go_sem] icast8 brOne bytesOf_byteRows in
theorem tokAt_c (T : Tbl) (s : Tx) (i : Nat) (hs : s.length ≤ 1048576) (hi : i < s.length) : PC Tryz.prog T 109 [.d (.str s), .d (.int .i64 (i : Nat))] (.tup [.agg (tkA (tokS (s.drop i)).1), tkEnd s i, .d (.int .i64 (tokS (s.drop i)).2.1)]) := by
 refine ⟨Tryz.call109, PCall.enterS Tryz.func109 rfl Tryz.ntmps109 rfl fun hb => ?_⟩
 have hki : (i : Int) < (s.length : Int) := by omega
 have htl : ∀ j, j ≤ s.length → True := fun _ _ => trivial
 simp only [go_sem, Tryz.results109]
 refine Zx (Zy ?_)
 intro b2
 first | intro fb2 | have fb2 := True.intro
 try simp only [freshL] at fb2
 refine Zp 39 ?_
 refine Zs (Zx (Zy ?_))
 refine ZP (rlet_c T _) ?_
 refine Zy ?_
 refine Zc (fun hc0 => ?_) fun hc0 => ?_
 ·
  have e1 := tw_len wdB s i (by omega)
  have e2 : List.drop i (List.take (i + ((s.drop i).takeWhile wdB).length) s) = (s.drop i).takeWhile wdB := tw_cut s i
  refine Z1 23 (wordEnd_c T s i hs (by omega)) ?_
  refine Zp 28 ?_
  refine AWp.ret ?_
  simp only [go_sem]
  have ht := tk_w (s := s) (i := i) hc0
  rw [tkEnd_0 ht (by have := tw_len wdB s i (by omega); have := tw_len wdB s (i + 1) (by omega); omega), ht]; simp [LeA, LeD, LeL, tkA]
 refine Zk ?_
 refine Zs (Zx (Zy ?_))
 (repeat (with_reducible refine And.intro ZS ?_))
 refine DW.pcgr rfl rfl rfl rfl rfl (fun hg => rat_c T _ _) (fun hg => by (try simp only [go_sem]) <;> first | exact hg | (exfalso; simp at hg; done) | (simpa using hg) | grind) rfl rfl ?_
 refine Zy ?_
 refine ZQ (fun hg => rlet_c T _) ?_
 refine Zy ?_
 refine Zm 16399 ?_
 refine Zc (fun hc1 => ?_) fun hc1 => ?_
 ·
  have hc58 : ((s.getD i 0).toNat : Int) = 58 ∧ letB (s.getD (i + 1) 0) = true := by first | exact hc1 | (simp at hc1; simpa using hc1) | grind
  have hl1 : i + 1 ≤ s.length := by omega
  have e1 := tw_len wdB s (i + 1) hl1
  have e2 : List.drop (i + 1) (List.take (i + 1 + ((s.drop (i + 1)).takeWhile wdB).length) s) = (s.drop (i + 1)).takeWhile wdB := tw_cut s (i + 1)
  refine Z1 23 (wordEnd_c T s (i + 1) hs hl1) ?_
  refine Zp 28 ?_
  refine AWp.ret ?_
  simp only [go_sem]
  have ht := tk_t (nl_n hc0) (by omega) hc58.2
  rw [tkEnd_0 ht (by have := tw_len wdB s i (by omega); have := tw_len wdB s (i + 1) (by omega); omega), ht]; simp [LeA, LeD, LeL, tkA]
 refine Zk ?_
 refine Zs (Zx (Zy ?_))
 refine ZP (rdig_c T _) ?_
 refine Zy ?_
 refine Zc (fun hc2 => ?_) fun hc2 => ?_
 ·
  have h58 : ¬ (s.getD i 0).toNat = 58 := fun h9 => by have := dig_48 hc2; omega
  have hn := tk_n (s := s) (i := i) (nl_n hc0) h58 hc2
  refine Z1 116 (numAt_c T s i hs hi) ?_
  refine Zp 7 ?_
  refine AWp.ret ?_
  simp only [go_sem]
  by_cases hne : (numS (s.drop i)).2.1 = 0
  · rw [if_pos hne] at hn
    obtain ⟨j, hj, ej⟩ := nS_at (s := s) (i := i) (by omega)
    rw [ej] at hn
    rw [tkEnd_0 hn hj, hn, hne, ej, pl_at hj]; simp [LeA, LeD, LeL, tkA]
  · rw [if_neg hne] at hn
    rw [tkEnd_e (by rw [hn]; exact hne), hn, nS_0 hne]; simp [LeA, LeD, LeL, tkA]
 refine Zk ?_
 refine Zs (Zp 271 ?_)
 refine Zc (fun hc3 => ?_) fun hc3 => ?_
 ·
  have hq := tk_q (s := s) (i := i) (nl_n hc0) (by omega) (nd_n hc2) (by omega)
  rcases hqq : quoT (s.drop (i + 1)) with _ | ⟨qt, qr⟩
  ·
   have hv := quoV_n hqq
   rw [hqq] at hq
   refine Z1 116 (strAt_c T s i hs hi) ?_
   refine Zs (Zp 39 ?_)
   refine Zc (fun hc4 => ?_) fun hc4 => ?_
   ·
    refine Zp 7 ?_
    refine AWp.ret ?_
    simp only [go_sem, hv]
    rw [tkEnd_e (by rw [hq]; decide), hq]; simp [LeA, LeD, LeL, tkA, zTk]
   exact absurd hc4 (by first | (simp; done) | omega | (simp [*]; done))
  obtain ⟨qj, hqj, rfl⟩ := quo_suf (s := s) (i := i) hqq
  have hv := quoV_s hqq hqj
  rw [hqq] at hq
  refine Z1 116 (strAt_c T s i hs hi) ?_
  refine Zs (Zp 39 ?_)
  refine Zc (fun hc4 => ?_) fun hc4 => ?_
  ·
   exact absurd hc4 (by first | (simp; done) | omega | (simp [*]; done))
  refine Zk ?_
  refine Zp 7 ?_
  refine AWp.ret ?_
  simp only [go_sem, hv]
  rw [tkEnd_0 hq hqj, hq]; simp [LeA, LeD, LeL, tkA]
 refine Zk ?_
 refine Zs (Zx (Zy ?_))
 refine ZP (rmark_c T _) ?_
 refine Zy ?_
 refine Zc (fun hc5 => ?_) fun hc5 => ?_
 ·
  have h58 : ¬ (s.getD i 0).toNat = 58 := fun h9 => by
    have e := u8_is (c := s.getD i 0) (n := 58) (by omega) (by decide)
    rw [e] at hc5; exact absurd hc5 (by decide)
  refine Zp 28 ?_
  refine AWp.ret ?_
  simp only [go_sem]
  have ht := tk_m (s := s) (i := i) (nl_n hc0) h58 (nd_n hc2) (by omega) hc5
  rw [tkEnd_0 ht (by have := tw_len wdB s i (by omega); have := tw_len wdB s (i + 1) (by omega); omega), ht]; simp [LeA, LeD, LeL, tkA]
 refine Zk ?_
 refine Zm 6 ?_
 refine Zp 14 ?_
 refine AWp.ret ?_
 simp only [go_sem]
 have ht := tk_o3 (s := s) (i := i) hc0 hc1 hc2 (by omega) hc5
 rw [tkEnd_e (by rw [ht]; first | decide | exact hne), ht]; simp [LeA, LeD, LeL, tkA, zTk]
end
section
open Go.RowKit
end
section
open Go.RowKit
set_option maxRecDepth 4000
def sS (a : List Tx) : Nat := (a.map fun s => s.length + 1).sum
theorem sS_app (a c : List Tx) : sS (a ++ c) = sS a + sS c := by simp [sS]
theorem tszL_app (a c : List Tst) : tszL (a ++ c) = tszL a + tszL c := by simp [tszL_eq]
theorem cszL_app (a c : List Cmd) : cszL (a ++ c) = cszL a + cszL c := by simp [cszL_eq]
def TT (l : List Tk) (i : Nat) : Nat := ((l.take i).map fun t => t.text.length + 12).sum
theorem TT_s {l : List Tk} {i : Nat} (h : i < l.length) : TT l (i + 1) = TT l i + (l.getD i tk0).text.length + 12 := by
 rw [TT, TT, List.take_succ_eq_append_getElem h, List.map_append, List.sum_append, show l.getD i tk0 = l[i] by simp [List.getD, h]]
 simp only [List.map_cons, List.map_nil, List.sum_cons, List.sum_nil]
 omega
theorem TT_mono {l : List Tk} {i j : Nat} (h : i ≤ j) : TT l i ≤ TT l j := by
 induction j with
 | zero => rw [show i = 0 by omega]; exact Nat.le_refl _
 | succ j ih =>
  rcases Nat.lt_or_ge j l.length with h1 | h1
  ·rcases Nat.lt_or_ge i (j + 1) with h2 | h2
   ·have := ih (by omega)
    rw [TT_s h1]; omega
   ·rw [show i = j + 1 by omega]; exact Nat.le_refl _
  ·rcases Nat.lt_or_ge i (j + 1) with h2 | h2
   ·have := ih (by omega)
    rw [show TT l (j + 1) = TT l j by rw [TT, TT, List.take_of_length_le (by omega), List.take_of_length_le (by omega)]]
    exact this
   ·rw [show i = j + 1 by omega]; exact Nat.le_refl _
theorem TT_1 {l : List Tk} {i : Nat} (h : i < l.length) : TT l i + 12 ≤ TT l (i + 1) := by rw [TT_s h]; omega
theorem strsL_sz (l : List Tk) (j j2 : Nat) (acc x : List Tx) (h : strsL l j acc = .ok x j2) : sS x + TT l j ≤ sS acc + TT l j2 := by
 rw [strsL] at h
 split at h
 ·rename_i h1
  have hj := isT_lt h1
  split at h
  ·rename_i h2
   have h3 := nx_lt h2
   have := strsL_sz l (j + 2) j2 _ x h
   rw [sS_app] at this
   have e1 := TT_1 hj
   have e2 := TT_s h3
   simp only [sS, List.map_cons, List.map_nil, List.sum_cons, List.sum_nil] at this ⊢
   have e3 : TT l (j + 1 + 1) = TT l (j + 2) := rfl
   omega
  ·cases h
 ·split at h
  ·rename_i h1
   have hj := isT_lt h1
   injection h with h2 h3
   subst h2 h3
   have := TT_1 hj
   omega
  ·cases h
termination_by l.length - j
theorem strsR_sz (l : List Tk) (i j : Nat) (x : List Tx) (h : strsR l i = .ok x j) : sS x + TT l i ≤ TT l j := by
 unfold strsR at h
 split at h
 ·rename_i h1
  have hi := isT_lt h1
  split at h
  ·rename_i h2
   have h3 := nx_lt h2
   have := strsL_sz l (i + 2) j _ x h
   have e1 := TT_1 hi
   have e2 := TT_s h3
   simp only [sS, List.map_cons, List.map_nil, List.sum_cons, List.sum_nil] at this ⊢
   have e3 : TT l (i + 1 + 1) = TT l (i + 2) := rfl
   omega
  ·cases h
 ·split at h
  ·rename_i h1
   have hj := nx_lt h1
   injection h with h2 h3
   subst h2 h3
   have := TT_s hj
   simp only [sS, List.map_cons, List.map_nil, List.sum_cons, List.sum_nil]
   omega
  ·cases h
theorem word_TT {l : List Tk} {i j : Nat} {ws : List Tx} {k : Int} (h : wordR l i ws = .ok k j) : TT l i + 12 ≤ TT l j := by
 obtain ⟨w1, _, _, rfl⟩ := wordR_ok h
 exact TT_1 (nx_lt w1)
theorem must_TT {l : List Tk} {i j : Nat} {c : Tx} {u : Unit} (h : mustR l i c = .ok u j) : TT l i + 12 ≤ TT l j := by
 obtain ⟨w1, rfl⟩ := mustR_ok h
 exact TT_1 (isT_lt w1)
theorem next_TT {l : List Tk} {i j : Nat} {k : Int} {t : Tk} (h : nextR l i k = .ok t j) : TT l i + t.text.length + 12 ≤ TT l j := by
 obtain ⟨w1, rfl, rfl⟩ := nextR_ok h
 exact Nat.le_of_eq (TT_s (nx_lt w1)).symm
theorem tst_sz (k m p : Int) (a c : List Tx) (o : Bool) (li : Int) (ks : List Tst) : tsz (.mk k m p a c o li ks) = sS a + sS c + tszL ks + 5 := by rw [tsz]; rfl
theorem cmd_sz (k : Int) (a : List Tx) (t : Tst) (x y : List Cmd) : csz (.mk k a t x y) = sS a + tsz t + cszL x + cszL y + 5 := by rw [csz]; rfl
theorem sS_nil : sS [] = 0 := rfl
theorem sS_one (s : Tx) : sS [s] = s.length + 1 := rfl
theorem test_sz : ∀ n, (∀ l i d x j, testR n l i d = .ok x j → tsz x + TT l i ≤ TT l j) ∧ (∀ l i d k acc x j, testsR n l i d k acc = .ok x j → tsz x + TT l i ≤ tszL acc + 5 + TT l j)
 | 0 => ⟨fun l i d x j h => (by rw [testR] at h; cases h), fun l i d k acc x j h => (by rw [testsR] at h; cases h)⟩
 | n + 1 => by
  obtain ⟨h1, h2⟩ := test_sz n
  refine ⟨fun l i d x j h => ?_, fun l i d k acc x j h => ?_⟩
  ·rw [testR] at h
   split at h
   ·cases h
   obtain ⟨k, j0, hw, h⟩ := Rd.bind_inv h
   have hw := word_TT hw
   split at h
   ·obtain ⟨a, j1, h3, h⟩ := Rd.bind_inv h
    injection h with h4 h5
    subst h4 h5
    have := h1 _ _ _ _ _ h3
    rw [tst_sz, sS_nil, tszL, tszL]; omega
   split at h
   ·obtain ⟨a, j1, h3, h⟩ := Rd.bind_inv h
    obtain ⟨a2, j2, h4, h⟩ := Rd.bind_inv h
    have h3 := must_TT h3
    have h4 := h1 _ _ _ _ _ h4
    have h5 := h2 _ _ _ _ _ _ _ h
    rw [tszL, tszL] at h5
    omega
   split at h
   ·obtain ⟨a, j1, h3, h⟩ := Rd.bind_inv h
    obtain ⟨a2, j2, h4, h⟩ := Rd.bind_inv h
    have h6 := TT_mono (l := l) (tagS_le _ _ _ _ _ _ _ h3).1
    have h4 := strsR_sz _ _ _ _ h4
    obtain ⟨a3, j3, h5, h⟩ := Rd.bind_inv h
    have h5 := strsR_sz _ _ _ _ h5
    injection h with h8 h7
    subst h8 h7
    rw [tst_sz, tszL]; omega
   split at h
   ·obtain ⟨a, j1, h3, h⟩ := Rd.bind_inv h
    have := strsR_sz _ _ _ _ h3
    injection h with h6 h7
    subst h6 h7
    rw [tst_sz, tszL, sS_nil]; omega
   split at h
   ·split at h
    ·rename_i hou
     obtain ⟨a, j1, h3, h⟩ := Rd.bind_inv h
     have h3 := next_TT h3
     have h9 := TT_mono (l := l) (Nat.le_succ j0)
     injection h with h6 h7
     subst h6 h7
     rw [tst_sz, tszL, sS_nil]
     simp only [Nat.succ_eq_add_one] at h9
     omega
    ·cases h
   ·injection h with h6 h7
    subst h6 h7
    rw [tst_sz, tszL, sS_nil]; omega
  ·rw [testsR] at h
   split at h
   ·rename_i hm
    obtain ⟨a, j1, h3, h⟩ := Rd.bind_inv h
    have e1 := TT_1 (isT_lt hm)
    have e2 := h1 _ _ _ _ _ h3
    have e3 := h2 _ _ _ _ _ _ _ h
    rw [tszL_app, tszL, tszL] at e3
    omega
   ·obtain ⟨a, j1, h3, h⟩ := Rd.bind_inv h
    have h3 := must_TT h3
    injection h with h4 h5
    subst h4 h5
    rw [tst_sz, sS_nil]
    omega
theorem t0_sz : tsz tst0 = 5 := by rw [tst0, tst_sz, tszL]; rfl
theorem cmds_sz : ∀ n, (∀ l i d x j, cmdR n l i d = .ok x j → csz x + TT l i ≤ TT l j) ∧ (∀ l i d x j, blockR n l i d = .ok x j → cszL x + TT l i ≤ TT l j) ∧ (∀ l i d acc x j, cmdsR n l i d acc = .ok x j → cszL x + TT l i ≤ cszL acc + TT l j) ∧ (∀ l i d x j, branchR n l i d = .ok x j → csz x + TT l i ≤ TT l j + 5)
 | 0 => ⟨fun l i d x j h => (by rw [cmdR] at h; cases h), fun l i d x j h => (by rw [blockR] at h; cases h), fun l i d acc x j h => (by rw [cmdsR] at h; cases h), fun l i d x j h => (by rw [branchR] at h; cases h)⟩
 | n + 1 => by
  obtain ⟨h1, h2, h3, h4⟩ := cmds_sz n
  refine ⟨fun l i d x j h => ?_, fun l i d x j h => ?_, fun l i d acc x j h => ?_, fun l i d x j h => ?_⟩
  ·rw [cmdR] at h
   split at h
   ·cases h
   obtain ⟨k, j0, hw, h⟩ := Rd.bind_inv h
   have hw := word_TT hw
   split at h
   ·have := h4 _ _ _ _ _ h; omega
   split at h
   ·obtain ⟨a, j1, h5, h⟩ := Rd.bind_inv h
    have h5 := strsR_sz _ _ _ _ h5
    obtain ⟨a2, j2, h6, h⟩ := Rd.bind_inv h
    have h6 := must_TT h6
    injection h with h7 h8
    subst h7 h8
    rw [cmd_sz, t0_sz, cszL]; omega
   split at h
   ·obtain ⟨a, j1, h5, h⟩ := Rd.bind_inv h
    have h5 := next_TT h5
    obtain ⟨a2, j2, h6, h⟩ := Rd.bind_inv h
    have h6 := must_TT h6
    injection h with h7 h8
    subst h7 h8
    rw [cmd_sz, t0_sz, cszL, sS_one]; omega
   ·obtain ⟨a2, j2, h6, h⟩ := Rd.bind_inv h
    have h6 := must_TT h6
    injection h with h7 h8
    subst h7 h8
    rw [cmd_sz, t0_sz, cszL, sS_nil]; omega
  ·rw [blockR] at h
   obtain ⟨a2, j2, h6, h⟩ := Rd.bind_inv h
   have h6 := must_TT h6
   have h7 := h3 _ _ _ _ _ _ h
   rw [show cszL [] = 0 from rfl] at h7
   omega
  ·rw [cmdsR] at h
   split at h
   ·rename_i h5
    have := TT_1 (isT_lt h5)
    injection h with h7 h8
    subst h7 h8
    omega
   ·obtain ⟨a2, j2, h6, h⟩ := Rd.bind_inv h
    have e1 := h1 _ _ _ _ _ h6
    have e2 := h3 _ _ _ _ _ _ h
    rw [cszL_app, cszL, show cszL [] = 0 from rfl] at e2
    omega
  ·rw [branchR] at h
   obtain ⟨a, j1, h5, h⟩ := Rd.bind_inv h
   have ht := (test_sz n).1 _ _ _ _ _ h5
   obtain ⟨a2, j2, h6, h⟩ := Rd.bind_inv h
   have hb := h2 _ _ _ _ _ h6
   split at h
   ·rename_i hm
    have hm := TT_1 (isT_lt hm)
    obtain ⟨a3, j3, h7, h⟩ := Rd.bind_inv h
    have := h4 _ _ _ _ _ h7
    injection h with h8 h9
    subst h8 h9
    rw [cmd_sz, sS_nil, cszL, show cszL [] = 0 from rfl]; omega
   split at h
   ·rename_i hm
    have hm := TT_1 (isT_lt hm)
    obtain ⟨a3, j3, h7, h⟩ := Rd.bind_inv h
    have := h2 _ _ _ _ _ h7
    injection h with h8 h9
    subst h8 h9
    rw [cmd_sz, sS_nil]; omega
   ·injection h with h8 h9
    subst h8 h9
    rw [cmd_sz, sS_nil, show cszL [] = 0 from rfl]; omega
theorem prog_sz : ∀ n (l : List Tk) (i : Nat) (acc : List Cmd) (x : List Cmd) (j : Nat), progR n l i acc = .ok x j → cszL x + TT l i ≤ cszL acc + TT l j
 | 0, l, i, acc, x, j, h => by rw [progR] at h; cases h
 | n + 1, l, i, acc, x, j, h => by
  rcases Nat.lt_or_ge i l.length with h9 | h9
  ·rw [pg_t h9] at h
   obtain ⟨c, j1, h6, h⟩ := Rd.bind_inv h
   have e1 := (cmds_sz n).1 _ _ _ _ _ h6
   have e2 := prog_sz n l j1 _ x j h
   rw [cszL_app, cszL, show cszL [] = 0 from rfl] at e2
   omega
  ·rw [pg_f (by omega)] at h
   injection h with h7 h8
   subst h7 h8
   exact Nat.le_refl _
theorem TT_len {l : List Tk} {N : Nat} (h : ∀ t ∈ l, t.text.length ≤ N) (i : Nat) : TT l i ≤ l.length * (N + 12) := by
 have : ∀ m : List Tk, (∀ t ∈ m, t.text.length ≤ N) → (m.map fun t => t.text.length + 12).sum ≤ m.length * (N + 12) := fun m => by
  induction m with
  | nil => intro _; simp
  | cons t m ih =>
   intro h
   have h1 := h t (List.mem_cons_self ..)
   have h2 := ih fun x hx => h x (List.mem_cons_of_mem _ hx)
   rw [List.map_cons, List.sum_cons, List.length_cons, Nat.succ_mul]
   omega
 refine Nat.le_trans (this (l.take i) fun t ht => h t (List.mem_of_mem_take ht)) (Nat.mul_le_mul_right _ ?_)
 rw [List.length_take]; omega
theorem parR_sz {l : List Tk} (hl : l.length ≤ 400) (h : ∀ t ∈ l, t.text.length ≤ 2001) : cszL (parR l).1 ≤ 1048576 := by
 rw [parR]
 split
 ·simp [cszL]
 split
 ·simp [cszL]
 ·split
  ·rename_i cs i hp
   have := prog_sz _ _ _ _ _ _ hp
   have h2 := TT_len h i
   have h3 : l.length * (2001 + 12) ≤ 400 * (2001 + 12) := Nat.mul_le_mul_right _ hl
   rw [show cszL [] = 0 from rfl] at this
   show cszL cs ≤ _
   omega
  ·simp [cszL]
  ·simp [cszL]
theorem quo_len : ∀ (n : Nat) (l t r : Tx), l.length ≤ n → quoT l = some (t, r) → t.length ≤ l.length
 | _, [], t, r, _, h => by simp [quoT] at h
 | 0, c :: l, t, r, hn, h => by simp at hn
 | n + 1, c :: l, t, r, hn, h => by
  have hl : l.length ≤ n := by simp at hn; omega
  by_cases h1 : c = 34
  ·subst h1
   rw [quo_1] at h
   injection h with h
   injection h with e1 e2
   rw [← e1]; simp
  by_cases h2 : c = 92
  ·subst h2
   cases l with
   | nil => rw [quo_2] at h; cases h
   | cons d q =>
    rw [quo_3] at h
    obtain ⟨p, hp, e⟩ := Option.map_eq_some_iff.1 h
    injection e with e1 e2
    have := quo_len n q p.1 p.2 (by simp at hl; omega) hp
    rw [← e1]
    simp only [List.length_cons]
    omega
  ·rw [quo_4 h1 h2] at h
   obtain ⟨p, hp, e⟩ := Option.map_eq_some_iff.1 h
   injection e with e1 e2
   have := quo_len n l p.1 p.2 hl hp
   rw [← e1]
   simp only [List.length_cons]
   omega
theorem tokS_len (l : Tx) : (tokS l).1.text.length ≤ l.length + 1 := by
 have h1 : ∀ (p : UInt8 → Bool) (m : Tx), (m.takeWhile p).length ≤ m.length := fun p m => (List.takeWhile_sublist p).length_le
 have h2 := h1 wdB l
 have h3 := h1 wdB (l.drop 1)
 rw [List.length_drop] at h3
 unfold tokS
 split
 ·show (l.takeWhile wdB).length ≤ _; omega
 split
 ·split
  ·show ((l.drop 1).takeWhile wdB).length ≤ _; omega
  ·simp [zTk]
 split
 ·split <;> simp
 split
 ·split
  ·simp [zTk]
  ·rename_i p hp
   have := quo_len _ _ p.1 p.2 (Nat.le_refl _) hp
   rw [List.length_drop] at this
   show p.1.length ≤ _; omega
 split
 ·simp
 ·simp [zTk]
theorem cutF_sz (s : Tx) (hs : s.length ≤ 1999 + 1) : ∀ (n : Nat) (X : List Tk) (i : Nat), X.length ≤ 400 → (∀ t ∈ X, t.text.length ≤ 2001) → (cutF s n X i).1.length ≤ 400 ∧ ∀ t ∈ (cutF s n X i).1, t.text.length ≤ 2001
 | 0, X, i, hX, h => by rw [cutF]; exact ⟨by simp, fun t ht => by simp at ht⟩
 | n + 1, X, i, hX, h => by
  rw [cutF]
  split
  ·exact ⟨by simp, fun t ht => by simp at ht⟩
  split
  ·exact ⟨hX, h⟩
  split
  ·exact ⟨by simp, fun t ht => by simp at ht⟩
  split
  ·exact ⟨by simp, fun t ht => by simp at ht⟩
  ·refine cutF_sz s hs n _ _ (by simp; omega) fun t ht => ?_
   rcases List.mem_append.1 ht with h1 | h1
   ·exact h t h1
   ·rw [List.mem_singleton] at h1
    subst h1
    have := tokS_len (s.drop (plS s i))
    rw [List.length_drop] at this
    omega
theorem cutS_sz (s : Tx) : (cutS s).1.length ≤ 400 ∧ ∀ t ∈ (cutS s).1, t.text.length ≤ 2001 := by
 unfold cutS
 split
 ·exact ⟨by simp, fun t ht => by simp at ht⟩
 ·exact cutF_sz s (by omega) 401 [] 0 (by simp) fun t ht => by simp at ht
end
section
def flagT : List (List UInt8) := [[92, 83, 101, 101, 110], [92, 65, 110, 115, 119, 101, 114, 101, 100], [92, 70, 108, 97, 103, 103, 101, 100], [92, 68, 101, 108, 101, 116, 101, 100], [92, 68, 114, 97, 102, 116]]
def flE : List (List UInt8) → Int
 | [] => 0
 | s :: l => if s ∈ flagT then flE l else 7
theorem flE_t {l : List (List UInt8)} {k : Nat} (h : k < l.length) (hc : ¬ l[k] ∈ flagT) : flE (l.drop k) = 7 := by rw [List.drop_eq_getElem_cons h, flE, if_neg hc]
theorem flE_f {l : List (List UInt8)} {k : Nat} (h : k < l.length) (hc : l[k] ∈ flagT) : flE (l.drop k) = flE (l.drop (k + 1)) := by rw [List.drop_eq_getElem_cons h, flE, if_pos hc]
theorem flE_e {l : List (List UInt8)} {k : Nat} (h : l.length ≤ k) : flE (l.drop k) = 0 := by rw [List.drop_eq_nil_of_le h]; rfl
theorem mapS1 (l : List (List UInt8)) : (l.map D.str).map (fun x => [x]) = l.map strD := by rw [List.map_map]; rfl
theorem ixG_lt {α : Type} [DecidableEq α] : ∀ (l : List α) (t : α), ixG l t < l.length
 | [], _ => by simp [ixG]
 | x :: r, t => by have := ixG_lt r t; unfold ixG; rw [List.length_cons]; split; omega; split <;> omega
theorem pw_ok : ∀ j : Nat, j < 5 → 1 ≤ (2 : Int) ^ j ∧ (2 : Int) ^ j ≤ 16 := by decide
attribute [local go_sem] icast8 strD in
theorem jFlags_c (T : Tbl) (hF : T 2 = flagT.map D.str) (l : List (List UInt8)) (hl : l.length ≤ 1048576) : PC Tryz.prog T 143 [.d (.slc 1 (l.map strD))] (.tup [.any, .d (.int .i64 (flE l))]) := by
 refine ⟨Tryz.call143, PCall.enterS Tryz.func143 rfl Tryz.ntmps143 rfl fun hb => ?_⟩
 simp only [go_sem, Tryz.results143]
 refine Zp 1 ?_
 refine Zp 3 ?_
 refine Zs (Zp 30 ?_)
 refine AWp.block (Zy ?_)
 refine Zl 6 9 (fun n lc hc => ∃ (k : Nat) (fv : Int), n = l.length - k ∧ EqS lc [(4, .d (.int .i64 fv)), (10, .d (.int .i64 (k : Nat)))] ∧ EqS hc (⟨[], []⟩) ∧ (k ≤ l.length) ∧ (flE l = flE (l.drop k))) ?_ ?_
 · refine ⟨_, 0, 0, rfl, ZE, ZE, ?_, ?_⟩
   all_goals (first | omega | rfl)
 rintro _ _ _ ⟨k, fv, rfl, ⟨rfl⟩, ⟨rfl⟩, h1, h2⟩
 refine Zy ?_
 refine Zp 31 ?_
 refine Zs (Zc (fun hc0 => ?_) fun hc0 => ?_)
 ·
  have hlt : k < l.length := by omega
  have hki : (k : Int) < (l.length : Int) := by omega
  have zf1 := fun d0_ => map_getD strD l k d0_ hlt
  refine Zk ?_
  refine Zs (AWp.block (Zp 31 ?_))
  refine AWp.rsG 0 fun K_ hK_ => ?_
  simp only [List.take_zero, List.drop_zero]
  refine Zy ?_
  refine LV.dw1 ?_
  refine DW.sliceG (n := 5) (e := 9) rfl rfl rfl (by first | rfl | kernel_rfl) (by first | rfl | kernel_rfl) (by rw [hF]; rfl) (by decide) (by decide) ?_
  refine DW.nil ?_
  rw [hF, mapS1]
  refine LV.lvc ?_
  refine Zy ?_
  refine ZP (IndexT_c T flagT _ (by decide)) ?_
  refine Zy ?_
  refine hK_ _ _ ?_
  refine Zm 61 ?_
  refine Zs (Zp 95 ?_)
  refine Zc (fun hc1 => ?_) fun hc1 => ?_
  ·
   have hm : ¬ l[k] ∈ flagT := fun h9 => by have := (ixG_mem flagT (l[k])).2 h9; omega
   refine Zp 3 ?_
   refine AWp.ret ?_
   simp only [go_sem]
   rw [h2, flE_t hlt hm]; try simp [LeA, LeL, LeD]
  have h0 : 0 ≤ ixG flagT (l[k]) := by omega
  have hm : l[k] ∈ flagT := (ixG_mem flagT (l[k])).1 h0
  have hix : ixG flagT (l[k]) < 5 := ixG_lt flagT (l[k])
  obtain ⟨pw, hpw, hp1, hp2⟩ : ∃ pw : Int, (1 : Int) * 2 ^ min (ixG flagT (l[k])).toNat 64 = pw ∧ 1 ≤ pw ∧ pw ≤ 16 := by
    have h5 := pw_ok (ixG flagT (l[k])).toNat (by omega)
    rw [show min (ixG flagT (l[k])).toNat 64 = (ixG flagT (l[k])).toNat by omega, Int.one_mul]
    exact ⟨_, rfl, h5.1, h5.2⟩
  refine Zk ?_
  refine Zr (blkQ_n (thenQ_n ?_))
  refine Zm 29 ?_
  refine Zr (thenQ_n ?_)
  refine Zf 6 9 (.e ⟨_, ZM, k + 1, (IntKind.i64.wrap (BitVec.ofInt 64 fv ||| BitVec.ofInt 64 pw).toNat), rfl, ZE, ZE, ?_, ?_⟩)
  · omega
  · rw [h2, flE_f hlt hm]
 refine AWp.exit (thenQ_e (thenQ_e (blkQ_e (thenQ_n ?_))))
 refine Zm 1 ?_
 refine Zp 3 ?_
 refine AWp.ret ?_
 simp only [go_sem]
 rw [h2, flE_e (by omega)]; try simp [LeA, LeL, LeD]
end
end Go.Proofs.YtidldcfpmehpiaaGreatDoor

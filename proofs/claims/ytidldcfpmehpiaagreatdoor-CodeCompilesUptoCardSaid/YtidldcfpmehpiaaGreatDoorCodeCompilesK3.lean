/- Texts that the law CodeCompiles rests on, packed. -/
import Derived.Test.YtidldcfpmehpiaaGreatDoorCodeCompilesK2
import Derived.Test.YtidldcfpmehpiaaGreatDoorGB
import Derived.Test.YtidldcfpmehpiaaGreatDoorCodeCompilesK1
import Derived.Test.YtidldcfpmehpiaaGreatDoorGC
import Derived.Test.YtidldcfpmehpiaaGreatDoorCodeCompilesK0
import Derived.Test.YtidldcfpmehpiaaGreatDoorGD
namespace Go.Proofs.YtidldcfpmehpiaaGreatDoor
set_option linter.unusedSimpArgs false
set_option linter.unusedVariables false
theorem testOps_c (T : Tbl) (t : Tst) : t.Ok → K3 t → (tO t).length ≤ 1000000 → ∀ (F : List (Nat × Ob)) (L : List Nat), AC Tryz.prog T 66 [.agg (tstA t)] ⟨F, L⟩ (fun x h => ∃ v, freshT v L ∧ x = .ret (.own v 22 (opsD (tO t))) ∧ h = ⟨F, v :: L⟩) := by
  induction t using Tst.ind with
  | h t ih =>
    intro ok k3 hl F L
    exact testOps_s T t ok k3.inv.1 hl (fun y hy hly F L => ih y hy (ok.inv.2.2.2 y hy) (k3.inv.2 y hy) hly F L) F L
theorem cO_parts {c : Cmd} (h : c.kind = 2) : (tO c.test).length + (cOL c.thn []).length + (cOL c.els []).length + 1 ≤ (cO c).length ∧ (0 < c.els.length → cO c = cOJ (tO c.test) (cOL c.thn []) (cOL c.els [])) ∧ (c.els.length = 0 → cO c = cOI (tO c.test) (cOL c.thn [])) := by
  rw [cO_eq, if_pos h]
  refine ⟨?_, fun e => cOE_p e, fun e => cOE_0 e⟩
  rcases Nat.eq_zero_or_pos c.els.length with e | e
  · rw [cOE_0 e, cOI, List.eq_nil_of_length_eq_zero e, cOL]
    simp only [List.length_append, opsMv_len, List.length_cons, List.length_nil]
    omega
  · rw [cOE_p e, cOJ]
    simp only [List.length_append, opsMv_len, List.length_cons, List.length_nil]
    omega
theorem cOI_u (t a : List OpS) (n : Int) (h : n = (t.length + 1 + a.length : Nat)) : t ++ [⟨4, n, zeT, zeC⟩] ++ opsMv (t ++ [(⟨4, n, zeT, zeC⟩ : OpS)]).length a = cOI t a := by
  subst h
  rw [cOI, List.length_append]; rfl
theorem cOJ_u (t a c : List OpS) (n m : Int) (h : n = (t.length + 1 + a.length + 1 : Nat)) (h2 : m = (t.length + 1 + a.length + 1 + c.length : Nat)) : t ++ [⟨4, n, zeT, zeC⟩] ++ opsMv (t ++ [(⟨4, n, zeT, zeC⟩ : OpS)]).length a ++ [⟨5, m, zeT, zeC⟩] ++ opsMv (t ++ [(⟨4, n, zeT, zeC⟩ : OpS)] ++ opsMv (t ++ [(⟨4, n, zeT, zeC⟩ : OpS)]).length a ++ [(⟨5, m, zeT, zeC⟩ : OpS)]).length c = cOJ t a c := by
  subst h h2
  rw [cOJ]
  simp only [List.length_append, opsMv_len, List.length_cons, List.length_nil, Nat.zero_add]
attribute [local go_sem] cmdD cmdA tstA tstD List.map_cons List.map_nil List.cons_append List.nil_append icast8 opsD_len opsMv_len opsD_ap in
set_option maxRecDepth 20000 in
set_option maxHeartbeats 4000000 in
theorem listOps_s (T : Tbl) (l : List Cmd) (hll : l.length * 208 ≤ 140737488355328) (okl : ∀ x ∈ l, x.Ok) (k3 : ∀ x ∈ l, x.kind = 2 → K3 x.test) (hl : (cOL l []).length ≤ 1000000) (i1 : ∀ y ∈ l, (cOL y.thn []).length ≤ 1000000 → ∀ (F : List (Nat × Ob)) (L : List Nat), AC Tryz.prog T 31 [.d (.slc 12 (thnD y))] ⟨F, L⟩ (fun x h => ∃ v, freshT v L ∧ x = .ret (.own v 22 (opsD (cOL y.thn []))) ∧ h = ⟨F, v :: L⟩)) (i2 : ∀ y ∈ l, (cOL y.els []).length ≤ 1000000 → ∀ (F : List (Nat × Ob)) (L : List Nat), AC Tryz.prog T 31 [.d (.slc 12 (elsD y))] ⟨F, L⟩ (fun x h => ∃ v, freshT v L ∧ x = .ret (.own v 22 (opsD (cOL y.els []))) ∧ h = ⟨F, v :: L⟩)) (F : List (Nat × Ob)) (L : List Nat) : AC Tryz.prog T 31 [.d (.slc 12 (l.map cmdD))] (⟨F, L⟩) (fun x h => ∃ v, freshT v L ∧ x = .ret (.own v 22 (opsD (cOL l []))) ∧ h = ⟨F, v :: L⟩) := by
 refine ⟨Tryz.call31, ACalls.enterS Tryz.func31 rfl Tryz.ntmps31 rfl fun hb => ?_⟩
 simp only [go_sem, Tryz.results31]
 refine Zp 1 ?_
 refine Zp 3 ?_
 refine Zs ?_
 refine Zp 7 ?_
 refine AWp.block ?_
 simp only [go_sem]
 refine AWp.ownNilS 3 22 rfl rfl (by decide) fun u0 fu0 => ?_
 try simp only [freshT] at fu0
 simp only [go_sem]
 refine Zl 1 6 (fun n lc hc => ∃ (k u : Nat) (Y : List OpS), n = l.length - k ∧ EqS lc [(3, .own u 22 (opsD Y)), (4, .d (.int .i64 (k : Nat)))] ∧ EqS hc (⟨F, u :: L⟩) ∧ (k ≤ l.length) ∧ (cOL l [] = cOL (l.drop k) Y) ∧ (freshT u L)) ?_ ?_
 · refine ⟨_, 0, u0, [], rfl, ?_, ZE, ?_, ?_, ?_⟩
   · (try simp only [go_sem, fu0]) <;> first | exact ⟨rfl⟩ | (constructor; rfl)
   all_goals (first | omega | rfl | exact fu0 | assumption)
 rintro _ _ _ ⟨k, u, Y, rfl, ⟨rfl⟩, ⟨rfl⟩, m1, m2, m3⟩
 simp only [go_sem]
 refine Zs ?_
 refine Zp 71 ?_
 refine Zc (fun hc0 => ?_) fun hc0 => ?_
 ·
  have hlt : k < l.length := by omega
  have hki : (k : Int) < (l.length : Int) := by omega
  have hci := (okl _ (List.getElem_mem hlt)).inv
  have e3 := cOL_s (Y := Y) hlt
  have hb : (Y ++ opsMv Y.length (cO l[k])).length ≤ 1000000 := by
    have := cOL_le (l.drop (k + 1)) (Y ++ opsMv Y.length (cO l[k]))
    rw [← e3, ← m2] at this
    omega
  simp only [List.length_append, opsMv_len] at hb
  have zf1 := fun d0_ => map_getD cmdD l k d0_ hlt
  refine Zk ?_
  refine Zs ?_
  refine AWp.block ?_
  refine Zx ?_
  try simp only [go_sem, fu0, zf1, hki]
  (repeat (with_reducible refine And.intro ZS ?_))
  intro b5
  first | intro fb5 | have fb5 := True.intro
  try simp only [freshL] at fb5
  try simp only [go_sem, fu0, zf1, hki, fb5]
  (repeat (with_reducible refine And.intro ZS ?_))
  refine Zm 15 ?_
  refine Zs ?_
  refine Zp 79 ?_
  refine Zc (fun hc1 => ?_) fun hc1 => ?_
  ·
   have e1 : cO (l[k]) = [⟨6, 0, zeT, .mk (l[k]).kind (l[k]).texts zeT [] []⟩] := by rw [cO_eq, if_neg hc1]
   have e2 : cOL l [] = cOL (l.drop (k + 1)) (Y ++ [⟨6, 0, zeT, .mk (l[k]).kind (l[k]).texts zeT [] []⟩]) := by rw [m2, e3, e1]; rfl
   rw [e1, List.length_singleton] at hb
   refine Zd true [0, 1, 2, 3, 4, 5, 6, 7, 8, 9, 10] ?_
   try simp only [go_sem, fu0, zf1, hki, fb5]
   (repeat (with_reducible refine And.intro ZS ?_))
   refine DW.pcr rfl rfl rfl rfl (strsCopy_c T _ hci.1) rfl rfl ?_
   try simp only [go_sem, fu0, zf1, hki, fb5]
   (repeat (with_reducible refine And.intro ZS ?_))
   refine DW.app rfl rfl rfl rfl (show slI Tryz.prog 24 = some (74, 22, 320) by simp only [go_sem]) rfl rfl (by simp only [go_sem, fu0, zf1, hki, fb5]) (by first | exact .inl rfl | exact .inr rfl) (by (try simp only [go_sem, List.length_map, List.length_take, opsD_len, opsMv_len, List.length_append, List.length_cons, List.length_nil]); first | done | omega) (by (try simp only [go_sem, List.length_map, List.length_take, opsD_len, opsMv_len, List.length_append, List.length_cons, List.length_nil]); first | done | omega) fun t1 ft1 => ?_
   try simp only [freshT] at ft1
   try simp only [go_sem, fu0, zf1, hki, fb5, ft1]
   (repeat (with_reducible refine And.intro ZS ?_))
   refine Zm 7 ?_
   simp only [go_sem]
   refine AWp.wkO 3 rfl (LeDR.last (leD_d _ _)) rfl ?_
   simp only [go_sem]
   refine AWp.exit (thenQ_e (blkQ_e (thenQ_n ?_)))
   refine Zr (thenQ_n ?_)
   refine Ze 1 6 [b5] [] [] [t1] (.e ⟨_, ZM, k + 1, t1, (Y ++ [(⟨6, 0, zeT, .mk (l[k]).kind (l[k]).texts zeT [] []⟩ : OpS)]), rfl, ?_, ZE, ?_, ?_, ?_⟩)
   · (try simp only [go_sem, fu0, zf1, hki, fb5, ft1]) <;> first | exact ⟨rfl⟩ | (constructor; first | rfl | (simp; done) | (simp [e1]; done))
   · omega
   · exact e2
   · first | exact ft1 | exact ft1.2 | exact ft1.2.2 | exact ft1.2.2.2 | exact ft1.2.2.2.2 | exact ft1.1 | trivial | assumption
  have hk2 : (l[k]).kind = 2 := by first | exact hc1 | omega
  obtain ⟨p1, p2, p3⟩ := cO_parts hk2
  have e2 : cOL l [] = cOL (l.drop (k + 1)) (Y ++ opsMv Y.length (cO l[k])) := by rw [m2, e3]
  refine Zk ?_
  refine Zx ?_
  try simp only [go_sem, fu0, zf1, hki, fb5]
  (repeat (with_reducible refine And.intro ZS ?_))
  refine DW.acp [] [] rfl rfl rfl rfl (by (try simp only [go_sem, fu0, zf1, hki, fb5]) <;> rfl) rfl (testOps_c T _ hci.2.1 (k3 _ (List.getElem_mem hlt) hk2) (by omega) _ _) ?_
  rintro _ _ ⟨V1, fV1, rfl, rfl⟩
  try simp only [freshT, freshL] at fV1
  try simp only [go_sem, fu0, zf1, hki, fb5, fV1]
  (repeat (with_reducible refine And.intro ZS ?_))
  refine Zm 31 ?_
  refine Zx ?_
  try simp only [go_sem, fu0, zf1, hki, fb5, fV1]
  (repeat (with_reducible refine And.intro ZS ?_))
  refine DW.acp [] [] rfl rfl rfl rfl (by (try simp only [go_sem, fu0, zf1, hki, fb5, fV1]) <;> rfl) rfl (i1 _ (List.getElem_mem hlt) (by omega) _ _) ?_
  rintro _ _ ⟨U2, fU2, rfl, rfl⟩
  try simp only [freshT, freshL] at fU2
  try simp only [go_sem, fu0, zf1, hki, fb5, fV1, fU2]
  (repeat (with_reducible refine And.intro ZS ?_))
  refine AWp.ownD 7 rfl (LeDR.rfl' _) rfl ?_
  simp only [go_sem]
  refine Zx ?_
  try simp only [go_sem, fu0, zf1, hki, fb5, fV1, fU2]
  (repeat (with_reducible refine And.intro ZS ?_))
  refine DW.acp [] [] rfl rfl rfl rfl (by (try simp only [go_sem, fu0, zf1, hki, fb5, fV1, fU2]) <;> rfl) rfl (i2 _ (List.getElem_mem hlt) (by omega) _ _) ?_
  rintro _ _ ⟨Z3, fZ3, rfl, rfl⟩
  try simp only [freshT, freshL] at fZ3
  try simp only [go_sem, fu0, zf1, hki, fb5, fV1, fU2, fZ3]
  (repeat (with_reducible refine And.intro ZS ?_))
  refine Zm 127 ?_
  simp only [go_sem]
  refine AWp.ownD 8 rfl (LeDR.rfl' _) rfl ?_
  simp only [go_sem]
  refine Zp 255 ?_
  refine Zp 495 ?_
  simp only [go_sem]
  skip
  refine Zs ?_
  refine Zp 2303 ?_
  refine Zc (fun hc2 => ?_) fun hc2 => ?_
  ·
   have hel : 0 < (l[k]).els.length := by omega
   have e1 := p2 hel
   refine Zr (thenQ_n ?_)
   refine Zx ?_
   try simp only [go_sem, fu0, zf1, hki, fb5, fV1, fU2, fZ3]
   (repeat (with_reducible refine And.intro ZS ?_))
   refine DW.app rfl rfl rfl rfl (show slI Tryz.prog 24 = some (74, 22, 320) by simp only [go_sem]) rfl rfl (by simp only [go_sem, fu0, zf1, hki, fb5, fV1, fU2, fZ3]) (by first | exact .inl rfl | exact .inr rfl) (by (try simp only [go_sem, List.length_map, List.length_take, opsD_len, opsMv_len, List.length_append, List.length_cons, List.length_nil]); first | done | omega) (by (try simp only [go_sem, List.length_map, List.length_take, opsD_len, opsMv_len, List.length_append, List.length_cons, List.length_nil]); first | done | omega) fun t2 ft2 => ?_
   try simp only [freshT] at ft2
   try simp only [go_sem, fu0, zf1, hki, fb5, fV1, fU2, fZ3, ft2]
   (repeat (with_reducible refine And.intro ZS ?_))
   refine Zm 255 ?_
   simp only [go_sem]
   refine AWp.wkO 10 rfl (LeDR.last (o := (⟨4, ((tO (l[k]).test).length + 1 + (cOL (l[k]).thn []).length + 1 : Nat), zeT, zeC⟩ : OpS)) (leD_j _ (by omega))) rfl ?_
   simp only [go_sem]
   refine Zx ?_
   try simp only [go_sem, fu0, zf1, hki, fb5, fV1, fU2, fZ3, ft2]
   (repeat (with_reducible refine And.intro ZS ?_))
   refine DW.pcr rfl rfl rfl rfl (moved_c T (cOL (l[k]).thn []) ((tO (l[k]).test) ++ [(⟨4, ((tO (l[k]).test).length + 1 + (cOL (l[k]).thn []).length + 1 : Nat), zeT, zeC⟩ : OpS)]).length (by omega) (fun o ho => by have := cOL_dst0 _ o ho; omega) (by simp; omega)) rfl rfl ?_
   try simp only [go_sem, fu0, zf1, hki, fb5, fV1, fU2, fZ3, ft2]
   (repeat (with_reducible refine And.intro ZS ?_))
   refine DW.app rfl rfl rfl rfl (show slI Tryz.prog 24 = some (74, 22, 320) by simp only [go_sem]) rfl rfl (by simp only [go_sem, fu0, zf1, hki, fb5, fV1, fU2, fZ3, ft2]) (by first | exact .inl rfl | exact .inr rfl) (by (try simp only [go_sem, List.length_map, List.length_take, opsD_len, opsMv_len, List.length_append, List.length_cons, List.length_nil]); first | done | omega) (by (try simp only [go_sem, List.length_map, List.length_take, opsD_len, opsMv_len, List.length_append, List.length_cons, List.length_nil]); first | done | omega) fun t3 ft3 => ?_
   try simp only [freshT] at ft3
   try simp only [go_sem, fu0, zf1, hki, fb5, fV1, fU2, fZ3, ft2, ft3]
   (repeat (with_reducible refine And.intro ZS ?_))
   refine Zm 239 ?_
   refine Zs ?_
   refine Zp 1143 ?_
   refine Zc (fun hc3 => ?_) fun hc3 => ?_
   ·
    refine Zx ?_
    try simp only [go_sem, fu0, zf1, hki, fb5, fV1, fU2, fZ3, ft2, ft3]
    (repeat (with_reducible refine And.intro ZS ?_))
    refine DW.app rfl rfl rfl rfl (show slI Tryz.prog 24 = some (74, 22, 320) by simp only [go_sem]) rfl rfl (by simp only [go_sem, fu0, zf1, hki, fb5, fV1, fU2, fZ3, ft2, ft3]) (by first | exact .inl rfl | exact .inr rfl) (by (try simp only [go_sem, List.length_map, List.length_take, opsD_len, opsMv_len, List.length_append, List.length_cons, List.length_nil]); first | done | omega) (by (try simp only [go_sem, List.length_map, List.length_take, opsD_len, opsMv_len, List.length_append, List.length_cons, List.length_nil]); first | done | omega) fun t4 ft4 => ?_
    try simp only [freshT] at ft4
    try simp only [go_sem, fu0, zf1, hki, fb5, fV1, fU2, fZ3, ft2, ft3, ft4]
    (repeat (with_reducible refine And.intro ZS ?_))
    refine Zm 47 ?_
    simp only [go_sem]
    refine AWp.wkO 10 rfl (LeDR.last (o := (⟨5, ((tO (l[k]).test).length + 1 + (cOL (l[k]).thn []).length + 1 + (cOL (l[k]).els []).length : Nat), zeT, zeC⟩ : OpS)) (leD_j _ (by omega))) rfl ?_
    simp only [go_sem]
    refine Zq fun K_ k_ => ?_
    try simp only [go_sem, fu0, zf1, hki, fb5, fV1, fU2, fZ3, ft2, ft3, ft4]
    (repeat (with_reducible refine And.intro ZS ?_))
    refine DW.pcr rfl rfl rfl rfl (moved_c T (cOL (l[k]).els []) ((((tO (l[k]).test) ++ [(⟨4, ((tO (l[k]).test).length + 1 + (cOL (l[k]).thn []).length + 1 : Nat), zeT, zeC⟩ : OpS)]) ++ opsMv ((tO (l[k]).test) ++ [(⟨4, ((tO (l[k]).test).length + 1 + (cOL (l[k]).thn []).length + 1 : Nat), zeT, zeC⟩ : OpS)]).length (cOL (l[k]).thn [])) ++ [(⟨5, ((tO (l[k]).test).length + 1 + (cOL (l[k]).thn []).length + 1 + (cOL (l[k]).els []).length : Nat), zeT, zeC⟩ : OpS)]).length (by omega) (fun o ho => by have := cOL_dst0 _ o ho; omega) (by rw [e1, cOJ] at p1 hb; simp at hb ⊢; omega)) rfl rfl ?_
    try simp only [go_sem, fu0, zf1, hki, fb5, fV1, fU2, fZ3, ft2, ft3, ft4]
    (repeat (with_reducible refine And.intro ZS ?_))
    refine DW.app rfl rfl rfl rfl (show slI Tryz.prog 24 = some (74, 22, 320) by simp only [go_sem]) rfl rfl (by simp only [go_sem, fu0, zf1, hki, fb5, fV1, fU2, fZ3, ft2, ft3, ft4]) (by first | exact .inl rfl | exact .inr rfl) (by (try simp only [go_sem, List.length_map, List.length_take, opsD_len, opsMv_len, List.length_append, List.length_cons, List.length_nil]); first | done | omega) (by (try simp only [go_sem, List.length_map, List.length_take, opsD_len, opsMv_len, List.length_append, List.length_cons, List.length_nil]); first | done | omega) fun t5 ft5 => ?_
    try simp only [freshT] at ft5
    try simp only [go_sem, fu0, zf1, hki, fb5, fV1, fU2, fZ3, ft2, ft3, ft4, ft5]
    (repeat (with_reducible refine And.intro ZS ?_))
    refine k_ _ _ (thenQ_n ?_)
    refine Zm 23 ?_
    simp only [go_sem]
    refine AWp.ownD 10 rfl (LeDR.rfl' _) rfl ?_
    simp only [go_sem]
    rw [cOJ_u _ _ _ _ _ rfl rfl, ← e1]
    refine AWp.leH (LeH.ord [] [Z3, U2, t5] [] [] _) ?_
    try simp only [go_sem, fZ3, fU2, ft5]
    refine Zq fun K_ k_ => ?_
    try simp only [go_sem, fu0, zf1, hki, fb5, fV1, fU2, fZ3, ft2, ft3, ft4, ft5]
    (repeat (with_reducible refine And.intro ZS ?_))
    refine DW.pcr rfl rfl rfl rfl (moved_c T (cO l[k]) Y.length (by omega) (fun o ho => by have := cO_dst _ o ho; omega) (by omega)) rfl rfl ?_
    try simp only [go_sem, fu0, zf1, hki, fb5, fV1, fU2, fZ3, ft2, ft3, ft4, ft5]
    (repeat (with_reducible refine And.intro ZS ?_))
    refine DW.app rfl rfl rfl rfl (show slI Tryz.prog 24 = some (74, 22, 320) by simp only [go_sem]) rfl rfl (by simp only [go_sem, fu0, zf1, hki, fb5, fV1, fU2, fZ3, ft2, ft3, ft4, ft5]) (by first | exact .inl rfl | exact .inr rfl) (by (try simp only [go_sem, List.length_map, List.length_take, opsD_len, opsMv_len, List.length_append, List.length_cons, List.length_nil]); first | done | omega) (by (try simp only [go_sem, List.length_map, List.length_take, opsD_len, opsMv_len, List.length_append, List.length_cons, List.length_nil]); first | done | omega) fun t6 ft6 => ?_
    try simp only [freshT] at ft6
    try simp only [go_sem, fu0, zf1, hki, fb5, fV1, fU2, fZ3, ft2, ft3, ft4, ft5, ft6]
    (repeat (with_reducible refine And.intro ZS ?_))
    refine k_ _ _ (blkQ_n (thenQ_n ?_))
    refine Zm 7 ?_
    refine Zr (thenQ_n ?_)
    refine Ze 1 6 [b5] [] [] [t6] (.e ⟨_, ZM, k + 1, t6, (Y ++ opsMv Y.length (cO l[k])), rfl, ?_, ZE, ?_, ?_, ?_⟩)
    · (try simp only [go_sem, fu0, zf1, hki, fb5, fV1, fU2, fZ3, ft2, ft3, ft4, ft5, ft6]) <;> first | exact ⟨rfl⟩ | (constructor; first | rfl | (simp; done) | (simp [e1]; done))
    · omega
    · exact e2
    · first | exact ft6 | exact ft6.2 | exact ft6.2.2 | exact ft6.2.2.2 | exact ft6.2.2.2.2 | exact ft6.1 | trivial | assumption
   omega
  have hel : (l[k]).els.length = 0 := by omega
  have e1 := p3 hel
  refine Zk ?_
  refine Zx ?_
  try simp only [go_sem, fu0, zf1, hki, fb5, fV1, fU2, fZ3]
  (repeat (with_reducible refine And.intro ZS ?_))
  refine DW.app rfl rfl rfl rfl (show slI Tryz.prog 24 = some (74, 22, 320) by simp only [go_sem]) rfl rfl (by simp only [go_sem, fu0, zf1, hki, fb5, fV1, fU2, fZ3]) (by first | exact .inl rfl | exact .inr rfl) (by (try simp only [go_sem, List.length_map, List.length_take, opsD_len, opsMv_len, List.length_append, List.length_cons, List.length_nil]); first | done | omega) (by (try simp only [go_sem, List.length_map, List.length_take, opsD_len, opsMv_len, List.length_append, List.length_cons, List.length_nil]); first | done | omega) fun t7 ft7 => ?_
  try simp only [freshT] at ft7
  try simp only [go_sem, fu0, zf1, hki, fb5, fV1, fU2, fZ3, ft7]
  (repeat (with_reducible refine And.intro ZS ?_))
  refine Zm 255 ?_
  simp only [go_sem]
  refine AWp.wkO 10 rfl (LeDR.last (o := (⟨4, ((tO (l[k]).test).length + 1 + (cOL (l[k]).thn []).length : Nat), zeT, zeC⟩ : OpS)) (leD_j _ (by omega))) rfl ?_
  simp only [go_sem]
  refine Zx ?_
  try simp only [go_sem, fu0, zf1, hki, fb5, fV1, fU2, fZ3, ft7]
  (repeat (with_reducible refine And.intro ZS ?_))
  refine DW.pcr rfl rfl rfl rfl (moved_c T (cOL (l[k]).thn []) ((tO (l[k]).test) ++ [(⟨4, ((tO (l[k]).test).length + 1 + (cOL (l[k]).thn []).length : Nat), zeT, zeC⟩ : OpS)]).length (by omega) (fun o ho => by have := cOL_dst0 _ o ho; omega) (by simp; omega)) rfl rfl ?_
  try simp only [go_sem, fu0, zf1, hki, fb5, fV1, fU2, fZ3, ft7]
  (repeat (with_reducible refine And.intro ZS ?_))
  refine DW.app rfl rfl rfl rfl (show slI Tryz.prog 24 = some (74, 22, 320) by simp only [go_sem]) rfl rfl (by simp only [go_sem, fu0, zf1, hki, fb5, fV1, fU2, fZ3, ft7]) (by first | exact .inl rfl | exact .inr rfl) (by (try simp only [go_sem, List.length_map, List.length_take, opsD_len, opsMv_len, List.length_append, List.length_cons, List.length_nil]); first | done | omega) (by (try simp only [go_sem, List.length_map, List.length_take, opsD_len, opsMv_len, List.length_append, List.length_cons, List.length_nil]); first | done | omega) fun t8 ft8 => ?_
  try simp only [freshT] at ft8
  try simp only [go_sem, fu0, zf1, hki, fb5, fV1, fU2, fZ3, ft7, ft8]
  (repeat (with_reducible refine And.intro ZS ?_))
  refine Zm 239 ?_
  refine Zs ?_
  refine Zp 1143 ?_
  refine Zc (fun hc3 => ?_) fun hc3 => ?_
  ·
   omega
  refine Zk ?_
  simp only [go_sem]
  refine AWp.ownD 10 rfl (LeDR.rfl' _) rfl ?_
  simp only [go_sem]
  rw [cOI_u _ _ _ rfl, ← e1]
  refine AWp.leH (LeH.ord [] [Z3, U2, t8] [] [] _) ?_
  try simp only [go_sem, fZ3, fU2, ft8]
  refine Zq fun K_ k_ => ?_
  try simp only [go_sem, fu0, zf1, hki, fb5, fV1, fU2, fZ3, ft7, ft8]
  (repeat (with_reducible refine And.intro ZS ?_))
  refine DW.pcr rfl rfl rfl rfl (moved_c T (cO l[k]) Y.length (by omega) (fun o ho => by have := cO_dst _ o ho; omega) (by omega)) rfl rfl ?_
  try simp only [go_sem, fu0, zf1, hki, fb5, fV1, fU2, fZ3, ft7, ft8]
  (repeat (with_reducible refine And.intro ZS ?_))
  refine DW.app rfl rfl rfl rfl (show slI Tryz.prog 24 = some (74, 22, 320) by simp only [go_sem]) rfl rfl (by simp only [go_sem, fu0, zf1, hki, fb5, fV1, fU2, fZ3, ft7, ft8]) (by first | exact .inl rfl | exact .inr rfl) (by (try simp only [go_sem, List.length_map, List.length_take, opsD_len, opsMv_len, List.length_append, List.length_cons, List.length_nil]); first | done | omega) (by (try simp only [go_sem, List.length_map, List.length_take, opsD_len, opsMv_len, List.length_append, List.length_cons, List.length_nil]); first | done | omega) fun t9 ft9 => ?_
  try simp only [freshT] at ft9
  try simp only [go_sem, fu0, zf1, hki, fb5, fV1, fU2, fZ3, ft7, ft8, ft9]
  (repeat (with_reducible refine And.intro ZS ?_))
  refine k_ _ _ (blkQ_n (thenQ_n ?_))
  refine Zm 7 ?_
  refine Zr (thenQ_n ?_)
  refine Ze 1 6 [b5] [] [] [t9] (.e ⟨_, ZM, k + 1, t9, (Y ++ opsMv Y.length (cO l[k])), rfl, ?_, ZE, ?_, ?_, ?_⟩)
  · (try simp only [go_sem, fu0, zf1, hki, fb5, fV1, fU2, fZ3, ft7, ft8, ft9]) <;> first | exact ⟨rfl⟩ | (constructor; first | rfl | (simp; done) | (simp [e1]; done))
  · omega
  · exact e2
  · first | exact ft9 | exact ft9.2 | exact ft9.2.2 | exact ft9.2.2.2 | exact ft9.2.2.2.2 | exact ft9.1 | trivial | assumption
 have e2 : cOL l [] = Y := by rw [m2, List.drop_eq_nil_of_le (by omega), cOL]
 rw [e2]
 refine AWp.exit (thenQ_e (thenQ_e (blkQ_e (thenQ_n ?_))))
 refine Zp 2 ?_
 refine AWp.ret ?_
 try simp only [thenQ, blkQ]
 apply endW_r [] [] [] [] (by (try simp only [go_sem, fu0]) <;> rfl)
 · exact ⟨u, by first | exact fu | exact fu.2 | exact fu.2.2 | exact fu.1 | trivial | assumption, rfl, by first | rfl | (simp only [go_sem, fu0]; done)⟩
 · simp [LeA, LeL]
end Go.Proofs.YtidldcfpmehpiaaGreatDoor

namespace Go.Proofs.YtidldcfpmehpiaaGreatDoor
set_option linter.unusedSimpArgs false
set_option linter.unusedVariables false
theorem leH_eq {h h' : AH} (e : h = h') : LeH h h' := e ▸ LeH.refl _
def compR (l : List Cmd) : List (List D) × Int := if ruleE l ≠ 0 then ([], ruleE l) else if 400 < (cCL l []).length then ([], 5) else (opsD (cCL l []), 0)
set_option maxRecDepth 20000 in
set_option maxHeartbeats 1000000 in
theorem compile_c (T : Tbl) (hL : LibT T) (hF : T 2 = flagT.map D.str) (hE : T 0 = extT.map D.str) (tb : Tabs T) (l : List Cmd) (hll : l.length * 208 ≤ 140737488355328) (ok : ∀ x ∈ l, x.Ok) (hl : (lsT l).length ≤ 4398046511104) (rd : chkE l = 0 → ∀ x ∈ l, x.Rd) (k3 : ruleE l = 0 → ∀ x ∈ l, C3 x) (hn : ruleE l = 0 → (cCL l []).length ≤ 1000000) (F : List (Nat × Ob)) (L : List Nat) : AC Tryz.prog T 9 [.d (.slc 12 (l.map cmdD))] (⟨F, L⟩) (fun x h => x = .ret (.tup [.d (.slc 22 (compR l).1), .d (.int .i64 (compR l).2)]) ∧ h = ⟨F, L⟩) := by
 refine ⟨Tryz.call9, ACalls.enterS Tryz.func9 rfl Tryz.ntmps9 rfl fun hb => ?_⟩
 simp only [go_sem, Tryz.results9]
 refine Zp 1 ?_
 refine Zs ?_
 refine Z1 3 (jCheck_c T hL hF hE tb l hll ok hl rd) ?_
 refine Zp 11 ?_
 refine Zc (fun hc0 => ?_) fun hc0 => ?_
 ·
  have hz : ruleE l ≠ 0 := by first | exact hc0 | omega
  have e : compR l = ([], ruleE l) := by rw [compR, if_pos hz]
  refine Zp 6 ?_
  refine AWp.ret ?_
  try simp only [thenQ, blkQ]
  apply endW_r [] [] [] [] (by (try simp only [go_sem]) <;> rfl)
  · exact ⟨rfl, by first | rfl | (simp only [go_sem, ]; done) | (simp [go_sem]; done)⟩
  · simp [LeA, LeL, LeD, e]
 have hz : ruleE l = 0 := by omega
 refine Zk ?_
 refine Zx ?_
 try simp only [go_sem]
 (repeat (with_reducible refine And.intro ZS ?_))
 intro w
 first | intro fw | have fw := True.intro
 try simp only [freshL] at fw
 try simp only [go_sem, fw]
 (repeat (with_reducible refine And.intro ZS ?_))
 refine Zm 5 ?_
 simp only [go_sem]
 refine AWp.nilCell (b := w) (i := 0) (j := 0) (k := 22) (ob := ⟨1, 1, [[.nils]]⟩) (r := [.nils]) (by simp [getO]) rfl rfl ?_
 refine AWp.leH (h' := ⟨mkO w 0 0 [] F, L⟩) (leH_eq (by simp [mkO, mA_nil, mO_nil, setO])) ?_
 refine Zx ?_
 try simp only [go_sem, fw]
 (repeat (with_reducible refine And.intro ZS ?_))
 refine DW.acl rfl rfl rfl rfl (LeH.refl _) (by first | rfl | (simp only [go_sem, fw]; done) | (simp only [go_sem, fw]; rfl)) (all_c T w l hll ok (k3 hz) 0 0 [] F _ (fun _ => rfl) (hn hz)) ?_
 rintro _ _ ⟨BB1, CC2, hCC2, rfl, rfl⟩
 try simp only [go_sem, fw]
 (repeat (with_reducible refine And.intro ZS ?_))
 refine Zm 2 ?_
 refine Zs ?_
 simp only [go_sem]
 refine AWp.iceO hCC2 ?_
 refine Zp 65 ?_
 refine Zc (fun hc1 => ?_) fun hc1 => ?_
 ·
  have h4 : 400 < (cCL l []).length := by omega
  have e : compR l = ([], 5) := by rw [compR, if_neg (by omega), if_pos h4]
  refine Zp 3 ?_
  refine AWp.ret ?_
  try simp only [thenQ, blkQ]
  apply endW_r [w] [] [] [] (by (try simp only [go_sem, fw]) <;> rfl)
  · exact ⟨rfl, by first | rfl | (simp only [go_sem, fw]; done) | (simp [go_sem]; done)⟩
  · simp [LeA, LeL, LeD, e]
 have h4 : ¬ 400 < (cCL l []).length := by omega
 have e : compR l = (opsD (cCL l []), 0) := by rw [compR, if_neg (by omega), if_neg h4]
 refine Zk ?_
 refine Zp 3 ?_
 refine AWp.ret ?_
 try simp only [thenQ, blkQ]
 apply endW_r [w] [] [] [] (by (try simp only [go_sem, fw]) <;> rfl)
 · exact ⟨rfl, by first | rfl | (simp only [go_sem, fw]; done) | (simp [go_sem]; done)⟩
 · simp [LeA, LeL, LeD, e]
end Go.Proofs.YtidldcfpmehpiaaGreatDoor

namespace Go.Proofs.YtidldcfpmehpiaaGreatDoor
set_option linter.unusedSimpArgs false
set_option linter.unusedVariables false
/-- so many texts -/
def numX (l : List Cmd) : Nat := (l.map fun c => c.texts.length).sum
theorem numX_a (a c : List Cmd) : numX (a ++ c) = numX a + numX c := by simp [numX]
theorem numX_s {l : List Cmd} {k : Nat} (h : k < l.length) : numX (l.take (k + 1)) = numX (l.take k) + (l[k]).texts.length := by rw [List.take_succ_eq_append_getElem h, numX_a]; simp [numX]
theorem numX_le (l : List Cmd) (k : Nat) : numX (l.take k) ≤ numX l := by
  have := numX_a (l.take k) (l.drop k)
  rw [List.take_append_drop] at this
  omega
theorem ext_in {s : List UInt8} (h : s = fileT ∨ s = rejT ∨ s = envT ∨ s = imapT) : s ∈ extT := by
  rcases h with rfl | rfl | rfl | rfl <;> decide
theorem ext_no {s : List UInt8} (h1 : ¬ s = fileT) (h2 : ¬ s = rejT) (h3 : ¬ s = envT) (h4 : ¬ s = imapT) : ¬ s ∈ extT := by
  intro h
  simp only [extT, List.mem_cons, List.not_mem_nil, or_false] at h
  rcases h with h | h | h | h
  · exact h1 h
  · exact h2 h
  · exact h3 h
  · exact h4 h
attribute [local go_sem] cmdD icast8 strD in
set_option maxRecDepth 4000 in
set_option maxHeartbeats 1000000 in
theorem scriptAllowed_c (T : Tbl) (hL : LibT T) (l : List Cmd) (hll : l.length * 208 ≤ 140737488355328) (ok : ∀ x ∈ l, x.Ok) (hl : (lsT l).length ≤ 4398046511104) (rd : chkE l = 0 → ∀ x ∈ l, x.Rd) (hsum : numX l ≤ 1048576) : PC Tryz.prog T 30 [.d (.slc 12 (l.map cmdD))] (.d (.int .i64 (ruleE l))) := by
 refine ⟨Tryz.call30, PCall.enterS Tryz.func30 rfl Tryz.ntmps30 rfl fun hb => ?_⟩
 simp only [go_sem, Tryz.results30]
 refine Zp 1 ?_
 refine Z1 3 (cmdsFault_c T l hll ok hl) ?_
 refine Zs ?_
 refine Zp 11 ?_
 refine Zc (fun hc0 => ?_) fun hc0 => ?_
 ·
  refine Zp 2 ?_
  refine AWp.ret ?_
  try simp only [go_sem]
  rw [ruleE, if_pos hc0]; try simp [LeA, LeD]
 have hz : chkE l = 0 := by omega
 have rd := rd hz
 refine Zk ?_
 refine Zp 5 ?_
 refine Zp 7 ?_
 refine Zs ?_
 refine AWp.block ?_
 simp only [go_sem]
 refine AWp.ownNilS 4 1 rfl rfl (by decide) fun w0 fw0 => ?_
 try simp only [freshT] at fw0
 simp only [go_sem]
 refine Zl 1 6 (fun n lc hc => ∃ (k w : Nat) (ks : List (List UInt8)), n = l.length - k ∧ EqS lc [(4, .own w 1 (ks.map strD)), (5, .d (.int .i64 (k : Nat)))] ∧ EqS hc (⟨[], [w]⟩) ∧ (k ≤ l.length) ∧ (ks.length = numX (l.take k)) ∧ (reqE [] l = reqE ks (l.drop k))) ?_ ?_
 · refine ⟨_, 0, w0, [], rfl, ZE, ZE, ?_, ?_, ?_⟩
   all_goals (first | omega | rfl | (simp [numX]; done))
 rintro _ _ _ ⟨k, w, ks, rfl, ⟨rfl⟩, ⟨rfl⟩, m1, m2, m3⟩
 simp only [go_sem]
 refine Zs ?_
 rcases Nat.lt_or_ge k l.length with hkl | hkl
 ·
  have htl : List.take l.length (List.map cmdD l) = List.map cmdD l := List.take_of_length_le (by simp)
  have hdm : List.drop k (List.map cmdD l) = List.map cmdD (l.drop k) := List.map_drop.symm
  have hkn : ks.length ≤ 1048576 := by have := numX_le l k; omega
  have hki : ((k : Int) < (l.length : Int)) = True := by simp; omega
  have hr2 := (rd _ (List.getElem_mem hkl)).inv.2.1
  have hsl := numX_s hkl
  have hsl2 := numX_le l (k + 1)
  have zf1 := fun d0_ => map_getD cmdD l k d0_ hkl
  refine Zp 16391 ?_
  refine Zc (fun hc1 => ?_) fun hc1 => ?_
  ·
   have hk1 : (l[k]).kind = 1 := by first | omega | (simp at hc1; omega)
   refine Zk ?_
   refine AWp.block ?_
   refine Zs ?_
   refine Zp 15 ?_
   refine AWp.block ?_
   simp only [go_sem]
   refine Zl 5 10 (fun n lc hc => ∃ (q u : Nat), n = (l[k]).texts.length - q ∧ EqS lc [(4, .own u 1 ((ks ++ (l[k]).texts.take q).map strD)), (6, .d (.int .i64 (q : Nat)))] ∧ EqS hc (⟨[], [u]⟩) ∧ (q ≤ (l[k]).texts.length) ∧ (AllX ((l[k]).texts.take q))) ?_ ?_
   · refine ⟨_, 0, w, rfl, ZE, ZE, ?_, ?_⟩
     all_goals (first | omega | exact fun s h9 => by simp at h9)
   rintro _ _ _ ⟨q, u, rfl, ⟨rfl⟩, ⟨rfl⟩, q1, q3⟩
   simp only [go_sem]
   refine Zs ?_
   refine Zp 2063 ?_
   refine Zc (fun hc2 => ?_) fun hc2 => ?_
   ·
    have hqt : q < (l[k]).texts.length := by omega
    have hqi : (q : Int) < ((l[k]).texts.length : Int) := by omega
    have zf2 := fun d0_ => map_getD strD (l[k]).texts q d0_ hqt
    refine Zk ?_
    refine Zs ?_
    refine AWp.block ?_
    refine Zp 31 ?_
    refine Zs ?_
    refine Zp 262175 ?_
    refine Zc (fun hc3 => ?_) fun hc3 => ?_
    ·
     have hx : ¬ (l[k]).texts[q] ∈ extT := by obtain ⟨⟨⟨h1, h2⟩, h3⟩, h4⟩ := hc3; exact ext_no h1 h2 h3 h4
     refine Zp 2 ?_
     refine AWp.ret ?_
     try simp only [go_sem, fw0, zf1, hki, htl, hdm, zf2, hqi]
     rw [ruleE, if_neg (fun h9 => h9 hz), m3, reqE_n hkl hk1 hqt hx]; try simp [LeA, LeD]
    have hx : (l[k]).texts[q] ∈ extT := ext_in (by grind)
    refine Zk ?_
    refine Zq fun K_ k_ => ?_
    try simp only [go_sem, fw0, zf1, hki, htl, hdm, zf2, hqi]
    (repeat (with_reducible refine And.intro ZS ?_))
    refine DW.app rfl rfl rfl rfl (show slI Tryz.prog 31 = some (9, 1, 16) by simp only [go_sem]) rfl rfl (by simp only [go_sem, fw0, zf1, hki, htl, hdm, zf2, hqi]) (by first | exact .inl rfl | exact .inr rfl) (by simp only [go_sem, List.length_map, List.length_append, List.length_take, List.length_cons, List.length_nil]; omega) (by simp only [go_sem, List.length_map, List.length_append, List.length_take, List.length_cons, List.length_nil]; omega) fun t1 ft1 => ?_
    try simp only [freshT] at ft1
    try simp only [go_sem, fw0, zf1, hki, htl, hdm, zf2, hqi, ft1]
    (repeat (with_reducible refine And.intro ZS ?_))
    refine k_ _ _ (blkQ_n (thenQ_n ?_))
    refine Zm 15 ?_
    refine Zr (thenQ_n ?_)
    refine Ze 5 10 [] [] [] [t1] (.e ⟨_, ZM, q + 1, t1, rfl, ?_, ZE, ?_, ?_⟩)
    · (try simp only [go_sem, fw0, zf1, hki, htl, hdm, zf2, hqi, ft1]) <;> first | exact ⟨rfl⟩ | (constructor; simp only [List.take_succ_eq_append_getElem hqt, List.map_append, List.map_cons, List.map_nil, strD, List.append_assoc])
    · omega
    · exact q3.s hqt hx
   have ha := q3.e (by omega)
   have htq : (l[k]).texts.take q = (l[k]).texts := List.take_of_length_le (by omega)
   rw [htq]
   refine AWp.exit (thenQ_e (thenQ_e (blkQ_e (thenQ_n ?_))))
   refine Zr (blkQ_n (thenQ_n ?_))
   refine Ze 1 6 [] [] [] [u] (.e ⟨_, ZM, k + 1, u, (ks ++ (l[k]).texts), rfl, ZE, ZE, ?_, ?_, ?_⟩)
   · omega
   · rw [List.length_append, m2, numX_s hkl]
   · rw [m3, reqE_s hkl hk1 ha]
  refine AWp.exit (thenQ_e (thenQ_e (blkQ_e (thenQ_n ?_))))
  refine Z1 2 (lallow_c T hL ks hkn (l.drop k) (by simp only [List.length_drop]; omega) (fun x hx => ok x (List.mem_of_mem_drop hx)) (fun x hx => rd x (List.mem_of_mem_drop hx))) ?_
  refine AWp.ret ?_
  try simp only [go_sem, fw0, zf1, hki, htl, hdm]
  rw [ruleE, if_neg (fun h9 => h9 hz), m3, reqE_o hkl (by first | omega | (simp at hc1; omega))]; try simp [LeA, LeD]
 have htl : List.take l.length (List.map cmdD l) = List.map cmdD l := List.take_of_length_le (by simp)
 have hdm : List.drop k (List.map cmdD l) = List.map cmdD (l.drop k) := List.map_drop.symm
 have hkn : ks.length ≤ 1048576 := by have := numX_le l k; omega
 have hki : ((k : Int) < (l.length : Int)) = False := by simp; omega
 refine Zp 16391 ?_
 refine Zc (fun hc1 => ?_) fun hc1 => ?_
 ·
  exact absurd hc1 (by first | (simp; done) | omega | (simp [*]; done))
 refine AWp.exit (thenQ_e (thenQ_e (blkQ_e (thenQ_n ?_))))
 refine Z1 2 (lallow_c T hL ks hkn (l.drop k) (by simp only [List.length_drop]; omega) (fun x hx => ok x (List.mem_of_mem_drop hx)) (fun x hx => rd x (List.mem_of_mem_drop hx))) ?_
 refine AWp.ret ?_
 try simp only [go_sem, fw0, hki, htl, hdm]
 rw [ruleE, if_neg (fun h9 => h9 hz), m3, reqE_e hkl]; try simp [LeA, LeD]
end Go.Proofs.YtidldcfpmehpiaaGreatDoor

namespace Go.Proofs.YtidldcfpmehpiaaGreatDoor
set_option linter.unusedSimpArgs false
set_option linter.unusedVariables false
def AllO (T : Tbl) (l : List Cmd) : Prop := (cOL l []).length ≤ 1000000 → ∀ (F : List (Nat × Ob)) (L : List Nat), AC Tryz.prog T 31 [.d (.slc 12 (l.map cmdD))] ⟨F, L⟩ (fun x h => ∃ v, freshT v L ∧ x = .ret (.own v 22 (opsD (cOL l []))) ∧ h = ⟨F, v :: L⟩)
theorem allO_of (T : Tbl) (l : List Cmd) (hll : l.length * 208 ≤ 140737488355328) (okl : ∀ x ∈ l, x.Ok) (k3 : ∀ x ∈ l, C3 x) (ih : ∀ x ∈ l, AllO T x.thn ∧ AllO T x.els) : AllO T l := fun hl F L =>
  listOps_s T l hll okl (fun x hx => (k3 x hx).inv.1) hl (fun y hy h F L => by rw [thnD_eq]; exact (ih y hy).1 h F L) (fun y hy h F L => by rw [elsD_eq]; exact (ih y hy).2 h F L) F L
theorem allO_i (T : Tbl) (c : Cmd) : c.Ok → C3 c → AllO T c.thn ∧ AllO T c.els := by
  induction c using Cmd.ind with
  | h c ih ih2 =>
    intro ok k3
    obtain ⟨o1, o2, o3, o4, o5, o6⟩ := ok.inv
    obtain ⟨q1, q2, q3⟩ := k3.inv
    exact ⟨allO_of T _ o3 o5 q2 fun x hx => ih x hx (o5 x hx) (q2 x hx), allO_of T _ o4 o6 q3 fun x hx => ih2 x hx (o6 x hx) (q3 x hx)⟩
theorem listOps_c (T : Tbl) (l : List Cmd) (hll : l.length * 208 ≤ 140737488355328) (okl : ∀ x ∈ l, x.Ok) (k3 : ∀ x ∈ l, C3 x) : AllO T l := allO_of T l hll okl k3 fun x hx => allO_i T x (okl x hx) (k3 x hx)
theorem compR_r {l : List Cmd} (h : ¬ ruleE l = 0) : compR l = ([], ruleE l) := if_pos h
theorem compR_5 {l : List Cmd} (h : ruleE l = 0) (h4 : 400 < (cOL l []).length) : compR l = ([], 5) := by rw [compR, if_neg (fun h9 => h9 h), cCL_0, if_pos h4]
theorem compR_0 {l : List Cmd} (h : ruleE l = 0) (h4 : ¬ 400 < (cOL l []).length) : compR l = (opsD (cOL l []), 0) := by rw [compR, if_neg (fun h9 => h9 h), cCL_0, if_neg h4]
def OpsOk (X : List OpS) : Prop := ∀ o ∈ X, o.test.Ok ∧ o.what.Ok
theorem OpsOk.app {X Y : List OpS} (h : OpsOk X) (k : OpsOk Y) : OpsOk (X ++ Y) := fun o ho => by
  rcases List.mem_append.1 ho with h1 | h1
  · exact h o h1
  · exact k o h1
theorem OpsOk.mv {n : Nat} {X : List OpS} (h : OpsOk X) : OpsOk (opsMv n X) := fun o ho => by
  obtain ⟨q, hq, rfl⟩ := List.mem_map.1 ho
  have := h q hq
  unfold opMv
  split
  · exact this
  · exact this
theorem zeT_ok : zeT.Ok := ⟨by decide, by decide, by decide, fun x hx => by simp [zeT, Tst.kids] at hx⟩
theorem whC_ok {k : Int} {ts : List Tx} (h : ts.length * 16 ≤ 140737488355328) : (Cmd.mk k ts zeT [] []).Ok := ⟨h, zeT_ok, by simp [Cmd.thn], by simp [Cmd.els], fun x hx => by simp [Cmd.thn] at hx, fun x hx => by simp [Cmd.els] at hx⟩
theorem zeC_ok : zeC.Ok := whC_ok (by decide)
theorem OpsOk.one {o : OpS} (h : o.test.Ok) (h2 : o.what.Ok) : OpsOk [o] := fun q hq => by
  rw [List.mem_singleton] at hq
  subst hq
  exact ⟨h, h2⟩
theorem tOL_ok (kd n : Int) : ∀ (l : List Tst), (∀ t ∈ l, OpsOk (tO t)) → ∀ f Y, OpsOk Y → OpsOk (tOL l kd n f Y)
  | [], _, f, Y, hY => by rw [tOL]; exact hY
  | t :: l, ih, f, Y, hY => by
    rw [tOL]
    refine tOL_ok kd n l (fun x hx => ih x (List.mem_cons_of_mem _ hx)) _ _ (OpsOk.app ?_ (ih t (List.mem_cons_self ..)).mv)
    split
    · exact hY
    · exact hY.app (.one zeT_ok zeC_ok)
theorem tO_ok (t : Tst) : t.Ok → OpsOk (tO t) := by
  induction t using Tst.ind with
  | h t ih =>
    intro ok
    rw [tO_eq]
    have h2 := ok.inv.2.2.2
    split
    · cases hk : t.kids with
      | nil => rw [tO1]; exact .one zeT_ok zeC_ok
      | cons x l => rw [tO1]; exact (ih x (by rw [hk]; simp) (h2 x (by rw [hk]; simp))).app (.one zeT_ok zeC_ok)
    · split
      · exact tOL_ok _ _ _ (fun x hx => ih x hx (h2 x hx)) _ _ fun o ho => by cases ho
      · exact .one ok zeC_ok
theorem cOL_ok : ∀ (l : List Cmd), (∀ c ∈ l, OpsOk (cO c)) → ∀ Y, OpsOk Y → OpsOk (cOL l Y)
  | [], _, Y, hY => by rw [cOL]; exact hY
  | c :: l, ih, Y, hY => by
    rw [cOL]
    exact cOL_ok l (fun x hx => ih x (List.mem_cons_of_mem _ hx)) _ (hY.app (ih c (List.mem_cons_self ..)).mv)
theorem cO_ok (c : Cmd) : c.Ok → OpsOk (cO c) := by
  induction c using Cmd.ind with
  | h c ih ih2 =>
    intro ok
    obtain ⟨o1, o2, o3, o4, o5, o6⟩ := ok.inv
    rw [cO_eq]
    split
    · have h3 := tO_ok c.test o2
      have h4 := cOL_ok c.thn (fun x hx => ih x hx (o5 x hx)) [] (fun o ho => by cases ho)
      have h5 := cOL_ok c.els (fun x hx => ih2 x hx (o6 x hx)) [] (fun o ho => by cases ho)
      rcases Nat.eq_zero_or_pos c.els.length with e | e
      · rw [cOE_0 e, cOI]
        exact (h3.app (.one zeT_ok zeC_ok)).app h4.mv
      · rw [cOE_p e, cOJ]
        exact (((h3.app (.one zeT_ok zeC_ok)).app h4.mv).app (.one zeT_ok zeC_ok)).app h5.mv
    · exact .one zeT_ok (whC_ok o1)
theorem compR_ops (l : List Cmd) (ok : ∀ x ∈ l, x.Ok) : ∃ Y, (compR l).1 = opsD Y ∧ OpsOk Y ∧ Y.length ≤ 400 := by
  by_cases h : ruleE l = 0
  · by_cases h4 : 400 < (cOL l []).length
    · exact ⟨[], by rw [compR_5 h h4]; rfl, (fun o ho => by cases ho), by decide⟩
    · exact ⟨cOL l [], by rw [compR_0 h h4], cOL_ok l (fun c hc => cO_ok c (ok c hc)) [] (fun o ho => by cases ho), by omega⟩
  · exact ⟨[], by rw [compR_r h]; rfl, (fun o ho => by cases ho), by decide⟩
attribute [local go_sem] icast8 opsD_len in
set_option maxRecDepth 4000 in
set_option maxHeartbeats 1000000 in
theorem OpsOf_c (T : Tbl) (hL : LibT T) (l : List Cmd) (hll : l.length * 208 ≤ 140737488355328) (ok : ∀ x ∈ l, x.Ok) (hl : (lsT l).length ≤ 4398046511104) (rd : chkE l = 0 → ∀ x ∈ l, x.Rd) (hsum : numX l ≤ 1048576) : PC Tryz.prog T 10 [.d (.slc 12 (l.map cmdD))] (.tup [.d (.slc 22 (compR l).1), .d (.int .i64 (compR l).2)]) := by
 refine ⟨Tryz.call10, PCall.enterS Tryz.func10 rfl Tryz.ntmps10 rfl fun hb => ?_⟩
 simp only [go_sem, Tryz.results10]
 refine Zp 1 ?_
 refine Z1 3 (scriptAllowed_c T hL l hll ok hl rd hsum) ?_
 refine Zs ?_
 refine Zp 11 ?_
 refine Zc (fun hc0 => ?_) fun hc0 => ?_
 ·
  refine Zp 6 ?_
  refine AWp.ret ?_
  try simp only [go_sem]
  rw [compR_r hc0]; simp [LeA, LeL, LeD]
 have hz : ruleE l = 0 := by omega
 have h4 := cOL_chk hz
 have k3 : ∀ x ∈ l, C3 x := fun x hx => C3.of x 0 (cFL_mem _ _ (cFL_ok hz) x hx)
 refine Zk ?_
 refine Zx ?_
 try simp only [go_sem]
 (repeat (with_reducible refine And.intro ZS ?_))
 refine DW.acp [] [] rfl rfl rfl rfl (by (try simp only [go_sem]) <;> rfl) rfl (listOps_c T l hll ok k3 (by omega) _ _) ?_
 rintro _ _ ⟨V1, fV1, rfl, rfl⟩
 try simp only [freshT, freshL] at fV1
 try simp only [go_sem, fV1]
 (repeat (with_reducible refine And.intro ZS ?_))
 refine Zm 4 ?_
 refine Zs ?_
 refine Zp 9 ?_
 refine Zc (fun hc1 => ?_) fun hc1 => ?_
 ·
  refine Zp 3 ?_
  refine AWp.ret ?_
  try simp only [go_sem, fV1]
  rw [compR_5 hz (by omega)]; simp [LeA, LeL, LeD]
 refine Zk ?_
 refine Zp 3 ?_
 refine AWp.ret ?_
 try simp only [go_sem, fV1]
 rw [compR_0 hz (by omega)]; simp [LeA, LeL, LeD]
attribute [local go_sem] icast8 opsD_len opD tstD cmdD tstA cmdA List.cons_append List.nil_append decide_true decide_false Bool.not_true Bool.not_false in
set_option maxRecDepth 20000 in
set_option maxHeartbeats 1000000 in
theorem sameOps_c (T : Tbl) (X : List OpS) (ok : OpsOk X) (hX : X.length ≤ 400) : PC Tryz.prog T 11 [.d (.slc 22 (opsD X)), .d (.slc 22 (opsD X))] (.d (.bool true)) := by
 refine ⟨Tryz.call11, PCall.enterS Tryz.func11 rfl Tryz.ntmps11 rfl fun hb => ?_⟩
 simp only [go_sem, Tryz.results11]
 refine Zp 3 ?_
 refine Zs ?_
 refine Zp 67 ?_
 refine Zc (fun hc0 => ?_) fun hc0 => ?_
 ·
  exact absurd hc0 (by simp)
 refine Zk ?_
 refine Zs ?_
 refine Zp 7 ?_
 refine AWp.block ?_
 simp only [go_sem]
 refine Zl 3 4 (fun n lc hc => ∃ (k : Nat), n = X.length - k ∧ EqS lc [(5, .d (.int .i64 (k : Nat)))] ∧ EqS hc (⟨[], []⟩) ∧ (k ≤ X.length)) ⟨_, 0, rfl, ZE, ZE, ZI⟩ ?_
 rintro _ _ _ ⟨k, rfl, ⟨rfl⟩, ⟨rfl⟩, h1⟩
 simp only [go_sem]
 refine Zs ?_
 refine Zp 71 ?_
 refine Zc (fun hc1 => ?_) fun hc1 => ?_
 ·
  have hlt : k < X.length := by omega
  have hki : (k : Int) < (X.length : Int) := by omega
  have hok := ok _ (List.getElem_mem hlt)
  have zf1 := fun d0_ => opsD_get d0_ hlt
  refine Zk ?_
  refine Zs ?_
  refine AWp.block ?_
  refine Zd true [0, 1, 2, 3, 4, 5, 6, 7, 8, 9, 10, 11, 12, 13, 14, 15, 16, 17, 18, 19, 20, 21, 22, 23, 24, 25, 26, 27, 28, 29, 30, 31, 32, 33, 34, 35, 36, 37, 38, 39, 40, 41, 42, 43, 44, 45, 46, 47, 48, 49, 50, 51] ?_
  try simp only [go_sem, zf1, hki]
  (repeat (with_reducible refine And.intro ZS ?_))
  refine DW.pcgr rfl rfl rfl rfl rfl (fun hg => sameTest_c T _ hok.1) (fun hg => by (try simp only [go_sem, zf1, hki]) <;> first | exact hg | (exfalso; simp at hg; done) | (simpa using hg) | grind) rfl rfl ?_
  try simp only [go_sem, zf1, hki]
  (repeat (with_reducible refine And.intro ZS ?_))
  refine DW.pcgr rfl rfl rfl rfl rfl (fun hg => sameCommand_c T _ hok.2) (fun hg => by (try simp only [go_sem, zf1, hki]) <;> first | exact hg | (exfalso; simp at hg; done) | (simpa using hg) | grind) rfl rfl ?_
  try simp only [go_sem, zf1, hki]
  (repeat (with_reducible refine And.intro ZS ?_))
  refine Zm 36028797018963975 ?_
  refine Zc (fun hc2 => ?_) fun hc2 => ?_
  ·
   exact absurd hc2 (by simp)
  refine AWp.skip (blkQ_n (thenQ_n ?_))
  refine Zr (thenQ_n ?_)
  refine Zf 3 4 (.e ⟨_, ZM, k + 1, rfl, ZE, ZE, ZN⟩)
 refine AWp.exit (thenQ_e (thenQ_e (blkQ_e (thenQ_n ?_))))
 refine Zm 0 ?_
 refine Zp 1 ?_
 refine AWp.ret ?_
 try simp only [go_sem]
 try simp [LeA, LeD]
attribute [local go_sem] decide_true in
set_option maxRecDepth 4000 in
set_option maxHeartbeats 1000000 in
theorem codeCompiles_c (T : Tbl) (hL : LibT T) (hF : T 2 = flagT.map D.str) (hE : T 0 = extT.map D.str) (tb : Tabs T) (l : List Cmd) (hll : l.length * 208 ≤ 140737488355328) (ok : ∀ x ∈ l, x.Ok) (hl : (lsT l).length ≤ 4398046511104) (rd : chkE l = 0 → ∀ x ∈ l, x.Rd) (hsum : numX l ≤ 1048576) : PC Tryz.prog T 3 [.d (.slc 12 (l.map cmdD))] (.d (.bool true)) := by
 refine ⟨Tryz.call3, PCall.enterS Tryz.func3 rfl Tryz.ntmps3 rfl fun hb => ?_⟩
 obtain ⟨Y, hY, hYo, hYl⟩ := compR_ops l ok
 have hC : PC Tryz.prog T 9 [.d (.slc 12 (l.map cmdD))] (.tup [.d (.slc 22 (compR l).1), .d (.int .i64 (compR l).2)]) := PC.of_ac (AC.mono (compile_c T hL hF hE tb l hll ok hl rd (fun hz x hx => C3.of x 0 (cFL_mem _ _ (cFL_ok hz) x hx)) (fun hz => by rw [cCL_0]; have := cOL_chk hz; omega) [] []) fun x h hx => hx.1) (by simp [LeA, LeL, LeD])
 simp only [go_sem, Tryz.results3]
 refine Zp 1 ?_
 refine Z1 3 (commands_c T l hll ok) ?_
 refine Z1 15 (hC) ?_
 refine Z1 63 (OpsOf_c T hL l hll ok hl rd hsum) ?_
 refine Zx ?_
 try simp only [go_sem, hY]
 (repeat (with_reducible refine And.intro ZS ?_))
 refine DW.pcgr rfl rfl rfl rfl rfl (fun hg => sameOps_c T Y hYo hYl) (fun hg => by (try simp only [go_sem, hY]) <;> first | exact hg | (exfalso; simp at hg; done) | (simpa using hg) | grind) rfl rfl ?_
 try simp only [go_sem, hY]
 (repeat (with_reducible refine And.intro ZS ?_))
 refine DW.pcgr rfl rfl rfl rfl rfl (fun hg => sameCommands_c T l hll ok) (fun hg => by (try simp only [go_sem, hY]) <;> first | exact hg | (exfalso; simp at hg; done) | (simpa using hg) | grind) rfl rfl ?_
 try simp only [go_sem, hY]
 (repeat (with_reducible refine And.intro ZS ?_))
 refine Zm 2 ?_
 refine AWp.ret ?_
 try simp only [go_sem, hY]
 try simp [LeA, LeD]
end Go.Proofs.YtidldcfpmehpiaaGreatDoor

namespace Go.Proofs.YtidldcfpmehpiaaGreatDoor
open Go.RowKit Go.ChangeShapes Go.WideShapes Go.ChangeAt
set_option linter.unusedSimpArgs false
set_option linter.unusedVariables false
open Go.ChangeShapes Go.WideShapes Go.ChangeAt
set_option maxRecDepth 100000
theorem sumF_le {α : Type} (f : α → Nat) {l : List α} {x : α} (h : x ∈ l) : f x ≤ (l.map f).sum := by
  induction l with
  | nil => simp at h
  | cons a l ih =>
    rw [List.map_cons, List.sum_cons]
    rcases List.mem_cons.1 h with rfl | h
    · omega
    · have := ih h; omega
theorem okC_texts {c : Cmd} (h : okC c = true) (hk : c.kind = 5 ∨ c.kind = 6) : 0 < c.texts.length := by
  rw [okC_eq] at h
  simp only [Bool.and_eq_true] at h
  have h := h.2
  rw [if_neg (by omega), if_pos (by simp [inB]; omega)] at h
  simp at h
  omega
theorem okC_flat {c : Cmd} (h : okC c = true) : c.thn = [] ∧ c.els = [] := by
  rw [okC_eq] at h
  simp only [Bool.and_eq_true, decide_eq_true_eq] at h
  exact ⟨List.eq_nil_of_length_eq_zero h.1.1.2, List.eq_nil_of_length_eq_zero h.1.2⟩
theorem Cmd.rd_of (c : Cmd) : csz c ≤ 1048576 → ∀ d : Int, cF c d = 0 → c.Rd := by
  induction c using Cmd.ind with
  | h c i1 i2 =>
    intro h d hc
    rw [csz_eq] at h
    have h1 := strs_len c.texts
    obtain ⟨_, hif, hno⟩ := cF_ok hc
    have hs : ∀ s ∈ c.texts, s.length ≤ 1048576 := fun s hs => by
      have := sumF_le (fun s : Str => s.length + 1) hs
      omega
    by_cases hk : c.kind = 2
    · obtain ⟨_, ha, hb, he⟩ := hif hk
      refine ⟨fun h9 => by omega, by omega, hs, fun x hx => i1 x hx (by have := csz_mem hx; omega) _ (ha x hx), fun x hx => ?_⟩
      cases hel : elsifC c with
      | true => exact i2 x hx (by have := csz_mem hx; omega) _ (hb hel x hx)
      | false => exact i2 x hx (by have := csz_mem hx; omega) _ (he hel x hx)
    · have ho := hno hk
      obtain ⟨e1, e2⟩ := okC_flat ho
      exact ⟨okC_texts ho, by omega, hs, fun x hx => by rw [e1] at hx; simp at hx, fun x hx => by rw [e2] at hx; simp at hx⟩
theorem numX_sz (l : List Cmd) : numX l ≤ cszL l := by
  induction l with
  | nil => simp [numX, cszL]
  | cons c l ih =>
    have h1 := strs_len c.texts
    have h2 := csz_eq c
    rw [cszL]
    simp only [numX, List.map_cons, List.sum_cons] at ih ⊢
    omega
theorem codeCompiles_run {H : Type} {enc : TypeId × Value → H} (W : World) (base : Nat) (v0 : Value) (d0 : DataW H) (p0 : List MemPlace)
    (k0 : Value.okWide Tryz.prog W .any base 22 v0) (h0 : DataW.Trod enc Tryz.prog W 0 (fun _ => true) true 22 v0 d0 p0) (t0 : Tiny d0)
    (hL : laidMetH Tryz.prog Rows.codeCompilesRow.laid W) (hsh : W.ShapedOpen Tryz.prog) :
    Calls Tryz.prog 3 #[v0] W fun e W' => e = .returned (.bool true) ∧ Below W.heap.size W W' := by
  obtain ⟨a, n, c, rfl⟩ := okWide_slice Tryz.underlying22 k0
  obtain ⟨l, hr, hl⟩ := Dec.open_ dec_cmds h0 t0
  obtain ⟨q0, _⟩ := texts_of_laid (zs := cmdWs) (g := 1) (name := "postroom/script.commands") (by kernel_rfl) (by kernel_rfl) Tryz.underlying243 Tryz.underlying9 (by kernel_rfl) (by kernel_rfl) (List.mem_cons_of_mem _ (List.mem_cons_self ..)) (by kernel_rfl) hL
  obtain ⟨q1, _⟩ := texts_of_laid (zs := tstWs) (g := 4) (name := "postroom/script.tests") (by kernel_rfl) (by kernel_rfl) Tryz.underlying243 Tryz.underlying9 (by kernel_rfl) (by kernel_rfl) (List.mem_cons_of_mem _ (List.mem_cons_of_mem _ (List.mem_cons_self ..))) (by kernel_rfl) hL
  obtain ⟨q2, _⟩ := texts_of_laid (zs := matWs) (g := 6) (name := "postroom/script.matches") (by kernel_rfl) (by kernel_rfl) Tryz.underlying123 Tryz.underlying9 (by kernel_rfl) (by kernel_rfl) (List.mem_cons_of_mem _ (List.mem_cons_of_mem _ (List.mem_cons_of_mem _ (List.mem_cons_self ..)))) (by kernel_rfl) hL
  obtain ⟨q3, _⟩ := texts_of_laid (zs := parWs) (g := 5) (name := "postroom/script.parts") (by kernel_rfl) (by kernel_rfl) Tryz.underlying123 Tryz.underlying9 (by kernel_rfl) (by kernel_rfl) (List.mem_cons_of_mem _ (List.mem_cons_of_mem _ (List.mem_cons_of_mem _ (List.mem_cons_of_mem _ (List.mem_cons_self ..))))) (by kernel_rfl) hL
  obtain ⟨q4, _⟩ := texts_of_laid (zs := extT) (g := 0) (name := "postroom/rule.extensions") (by kernel_rfl) (by kernel_rfl) Tryz.underlying123 Tryz.underlying9 (by kernel_rfl) (by kernel_rfl) (List.mem_cons_of_mem _ (List.mem_cons_of_mem _ (List.mem_cons_of_mem _ (List.mem_cons_of_mem _ (List.mem_cons_of_mem _ (List.mem_cons_self ..)))))) (by kernel_rfl) hL
  obtain ⟨q5, _⟩ := texts_of_laid (zs := flagT) (g := 2) (name := "postroom/rule.names") (by kernel_rfl) (by kernel_rfl) Tryz.underlying281 Tryz.underlying9 (by kernel_rfl) (by kernel_rfl) (List.mem_cons_of_mem _ (List.mem_cons_of_mem _ (List.mem_cons_of_mem _ (List.mem_cons_of_mem _ (List.mem_cons_of_mem _ (List.mem_cons_of_mem _ (List.mem_cons_self ..))))))) (by kernel_rfl) hL
  obtain ⟨_, m, hm⟩ := Lib0.open_ hsh
  have hn := cmds_len l
  have hs := lsT_len l
  have hx := numX_sz l
  let tb : List (Nat × List D) := [(1, cmdWs.map D.str), (4, tstWs.map D.str), (6, matWs.map D.str), (5, parWs.map D.str), (0, extT.map D.str), (2, flagT.map D.str), (3, [.int .i64 m])]
  have hT : ∀ p ∈ tb, TabOk W p := by
    intro p hp
    simp only [tb, List.mem_cons, List.not_mem_nil, or_false] at hp
    rcases hp with rfl | rfl | rfl | rfl | rfl | rfl | rfl
    · exact .texts q0 (by decide)
    · exact .texts q1 (by decide)
    · exact .texts q2 (by decide)
    · exact .texts q3 (by decide)
    · exact .texts q4 (by decide)
    · exact .texts q5 (by decide)
    · exact .int hm
  refine law_calls (T := tabT tb) (codeCompiles_c (tabT tb) ⟨m, rfl⟩ rfl rfl ⟨rfl, rfl, rfl, rfl⟩ l (by omega) (fun x hx => Cmd.ok_of x (by have := csz_mem hx; omega)) (by omega) (fun hz x hx => ?_) (by omega)) (tabT_ok hT) ⟨rfl, fun i x hx => ?_⟩
  · unfold chkE at hz
    split at hz
    · rename_i h9
      exact Cmd.rd_of x (by have := csz_mem hx; omega) 0 (cFL_mem _ _ h9 x hx)
    · omega
  match i, hx with
  | 0, hx =>
    simp at hx
    subst hx
    exact ⟨_, rfl, .d (cells_one hr rfl)⟩
  | i + 1, hx => simp at hx
end Go.Proofs.YtidldcfpmehpiaaGreatDoor

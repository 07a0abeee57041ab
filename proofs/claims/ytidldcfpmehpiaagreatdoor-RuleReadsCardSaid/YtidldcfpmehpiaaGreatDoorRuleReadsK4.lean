/- Texts that the law RuleReads rests on, packed. -/
import Derived.Test.YtidldcfpmehpiaaGreatDoorGB
import Derived.Test.YtidldcfpmehpiaaGreatDoorRuleReadsK3
import Derived.Test.YtidldcfpmehpiaaGreatDoorRuleReadsK0
import Derived.Test.YtidldcfpmehpiaaGreatDoorGC
import Derived.Test.YtidldcfpmehpiaaGreatDoorRuleReadsK1
import Derived.Test.YtidldcfpmehpiaaGreatDoorRuleReadsK2
import Derived.Test.YtidldcfpmehpiaaGreatDoorGD
set_option linter.unusedSimpArgs false
set_option linter.unusedVariables false
set_option maxRecDepth 20000
set_option maxHeartbeats 4000000
namespace Go.Proofs.YtidldcfpmehpiaaGreatDoor
section
def flB (s : List UInt8) : Int := if s = [92, 83, 101, 101, 110] then 1 else if s = [92, 65, 110, 115, 119, 101, 114, 101, 100] then 2 else if s = [92, 70, 108, 97, 103, 103, 101, 100] then 4 else if s = [92, 68, 101, 108, 101, 116, 101, 100] then 8 else if s = [92, 68, 114, 97, 102, 116] then 16 else 0
theorem flB_0 (s : List UInt8) : flB s = 0 ↔ ¬ s ∈ flagT := by
 unfold flB flagT
 simp only [List.mem_cons, List.not_mem_nil, or_false]
 repeat' split
 all_goals (constructor <;> intro h <;> first | omega | (simp_all; done) | rfl)
theorem flE_7 : ∀ {l : List (List UInt8)} {k : Nat} (h : k < l.length), ¬ l[k] ∈ flagT → flE l = 7
 | s :: l, 0, h, hc => by
  have hc' : ¬ s ∈ flagT := by simpa using hc
  unfold flE; rw [if_neg hc']
 | s :: l, k + 1, h, hc => by
  unfold flE
  split
  ·exact flE_7 (l := l) (k := k) (by simpa using h) (by simpa using hc)
  ·rfl
theorem flE_0 : ∀ {l : List (List UInt8)}, (∀ s ∈ l, s ∈ flagT) → flE l = 0
 | [], _ => rfl
 | s :: l, h => by unfold flE; rw [if_pos (h s (List.mem_cons_self ..))]; exact flE_0 fun x hx => h x (List.mem_cons_of_mem _ hx)
def GoodI (l : List (List UInt8)) (k : Nat) : Prop := ∀ (j : Nat) (h : j < l.length), j < k → l[j] ∈ flagT
theorem GoodI.s {l : List (List UInt8)} {k : Nat} (h : k < l.length) (H : GoodI l k) (hc : l[k] ∈ flagT) : GoodI l (k + 1) := fun j hj hk => by
 rcases Nat.lt_or_ge j k with h9 | h9
 ·exact H j hj h9
 ·obtain rfl : j = k := by omega
  exact hc
theorem GoodI.e {l : List (List UInt8)} {k : Nat} (H : GoodI l k) (h : l.length ≤ k) : flE l = 0 := flE_0 fun s hs => by
 obtain ⟨i, h8, h7⟩ := List.mem_iff_getElem.1 hs
 exact h7 ▸ H i h8 (by omega)
theorem flagBit_c (T : Tbl) (s : List UInt8) : PC Tryz.prog T 145 [.d (.str s)] (.d (.int .i64 (flB s))) := by
 refine ⟨Tryz.call145, PCall.enterS Tryz.func145 rfl Tryz.ntmps145 rfl fun hb => ?_⟩
 simp only [go_sem, Tryz.results145]
 refine Zp 1 ?_
 refine Zs (Zp 2 ?_)
 refine AWp.block (Zp 3 ?_)
 refine Zc (fun hc0 => ?_) fun hc0 => ?_
 ·
  refine Zp 1 ?_
  refine AWp.ret ?_
  simp only [go_sem]
  simp [flB, *]
 refine Zp 5 ?_
 refine Zc (fun hc1 => ?_) fun hc1 => ?_
 ·
  refine Zp 1 ?_
  refine AWp.ret ?_
  simp only [go_sem]
  simp [flB, *]
 refine Zp 5 ?_
 refine Zc (fun hc2 => ?_) fun hc2 => ?_
 ·
  refine Zp 1 ?_
  refine AWp.ret ?_
  simp only [go_sem]
  simp [flB, *]
 refine Zp 5 ?_
 refine Zc (fun hc3 => ?_) fun hc3 => ?_
 ·
  refine Zp 1 ?_
  refine AWp.ret ?_
  simp only [go_sem]
  simp [flB, *]
 refine Zp 4 ?_
 refine Zc (fun hc4 => ?_) fun hc4 => ?_
 ·
  refine Zp 1 ?_
  refine AWp.ret ?_
  simp only [go_sem]
  simp [flB, *]
 refine AWp.skip (blkQ_n (thenQ_n ?_))
 refine Zp 1 ?_
 refine AWp.ret ?_
 simp only [go_sem]
 simp [flB, *]
attribute [local go_sem] icast8 strD in
theorem jFlagsOf_c (T : Tbl) (l : List (List UInt8)) (hl : l.length ≤ 1048576) : PC Tryz.prog T 80 [.d (.slc 1 (l.map strD))] (.tup [.any, .d (.int .i64 (flE l))]) := by
 refine ⟨Tryz.call80, PCall.enterS Tryz.func80 rfl Tryz.ntmps80 rfl fun hb => ?_⟩
 simp only [go_sem, Tryz.results80]
 refine Zp 1 ?_
 refine Zp 3 ?_
 refine Zs (Zp 7 ?_)
 refine AWp.block (Zy ?_)
 refine Zl 1 6 (fun n lc hc => ∃ (bt fv : Int), n = (64 - bt).toNat ∧ EqS lc [(4, .d (.int .i64 fv)), (5, .d (.int .i64 bt))] ∧ EqS hc (⟨[], []⟩) ∧ (1 ≤ bt) ∧ (bt ≤ 32) ∧ (0 ≤ fv) ∧ (fv < bt)) ?_ ?_
 · refine ⟨_, 1, 0, rfl, ZE, ZE, ?_, ?_, ?_, ?_⟩
   all_goals (omega)
 rintro _ _ _ ⟨bt, fv, rfl, ⟨rfl⟩, ⟨rfl⟩, g1, g2, g3, g4⟩
 refine Zy ?_
 refine Zs (Zp 23 ?_)
 refine Zc (fun hc0 => ?_) fun hc0 => ?_
 ·
  refine Zk ?_
  refine Zs (AWp.block (Zp 15 ?_))
  refine AWp.block (Zy ?_)
  refine Zl 5 10 (fun n lc hc => ∃ (k : Nat) (f2 : Int), n = l.length - k ∧ EqS lc [(4, .d (.int .i64 f2)), (6, .d (.int .i64 (k : Nat)))] ∧ EqS hc (⟨[], []⟩) ∧ (k ≤ l.length) ∧ (f2 = fv)) ?_ ?_
  · refine ⟨_, 0, fv, rfl, ZE, ZE, ?_, ?_⟩
    all_goals (first | omega | rfl)
  rintro _ _ _ ⟨k, f2, rfl, ⟨rfl⟩, ⟨rfl⟩, h1, h3⟩
  refine Zy ?_
  refine Zs (Zp 143 ?_)
  refine Zc (fun hc1 => ?_) fun hc1 => ?_
  ·
   have hlt : k < l.length := by omega
   have hki : (k : Int) < (l.length : Int) := by omega
   have zf1 := fun d0_ => map_getD strD l k d0_ hlt
   refine Zk ?_
   refine Zs (AWp.block (Zs (Zx ?_)))
   simp only [go_sem, zf1, hki]
   refine ZP (flagBit_c T _) ?_
   refine Zy ?_
   refine Zm 1039 ?_
   refine Zc (fun hc2 => ?_) fun hc2 => ?_
   ·
    have hm := (flB_0 (l[k])).1 hc2
    refine Zp 6 ?_
    refine AWp.ret ?_
    simp only [go_sem]
    rw [flE_7 hlt hm]; try simp [LeA, LeL, LeD]
   refine Zk ?_
   refine Zx ?_
   simp only [go_sem, zf1, hki]
   refine ZP (flagBit_c T _) ?_
   refine Zy ?_
   refine Zm 2063 ?_
   refine Zc (fun hc3 => ?_) fun hc3 => ?_
   ·
    refine Zp 7 ?_
    refine AWp.exit (blkQ_d (by decide) (thenQ_e (thenQ_e (blkQ_e (blkQ_n (thenQ_n ?_))))))
    refine Zr (thenQ_n ?_)
    refine Zf 1 6 (.e ⟨_, ?_, (bt * 2), (f2 + bt), rfl, ZE, ZE, ?_, ?_, ?_, ?_⟩)
    · first | omega | (simp; omega) | (omega)
    · omega
    · omega
    · omega
    · omega
   refine AWp.skip (blkQ_n (thenQ_n ?_))
   refine Zr (thenQ_n ?_)
   refine Zf 5 10 (.e ⟨_, ZM, k + 1, f2, rfl, ZE, ZE, ?_, ?_⟩)
   · omega
   · exact h3
  refine AWp.exit (thenQ_e (thenQ_e (blkQ_e (blkQ_n (thenQ_n ?_)))))
  refine Zr (thenQ_n ?_)
  refine Zf 1 6 (.e ⟨_, ?_, (bt * 2), f2, rfl, ZE, ZE, ?_, ?_, ?_, ?_⟩)
  · first | omega | (simp; omega) | (omega)
  · omega
  · omega
  · omega
  · omega
 refine AWp.exit (thenQ_e (thenQ_e (blkQ_e (thenQ_n ?_))))
 refine Zs (Zp 11 ?_)
 refine AWp.block (Zy ?_)
 refine Zl 3 4 (fun n lc hc => ∃ (k : Nat), n = l.length - k ∧ EqS lc [(7, .d (.int .i64 (k : Nat)))] ∧ EqS hc (⟨[], []⟩) ∧ (k ≤ l.length) ∧ (GoodI l k)) ?_ ?_
 · refine ⟨_, 0, rfl, ZE, ZE, ?_, ?_⟩
   all_goals (first | omega | exact fun j h h9 => absurd h9 (by omega))
 rintro _ _ _ ⟨k, rfl, ⟨rfl⟩, ⟨rfl⟩, h1, h2⟩
 refine Zy ?_
 refine Zs (Zp 71 ?_)
 refine Zc (fun hc4 => ?_) fun hc4 => ?_
 ·
  have hlt : k < l.length := by omega
  have hki : (k : Int) < (l.length : Int) := by omega
  have zf2 := fun d0_ => map_getD strD l k d0_ hlt
  refine Zk ?_
  refine Zs (AWp.block (Zx ?_))
  simp only [go_sem, zf2, hki]
  refine ZP (flagBit_c T _) ?_
  refine Zy ?_
  refine Zm 519 ?_
  refine Zc (fun hc5 => ?_) fun hc5 => ?_
  ·
   have hm := (flB_0 (l[k])).1 hc5
   refine Zp 6 ?_
   refine AWp.ret ?_
   simp only [go_sem]
   rw [flE_7 hlt hm]; try simp [LeA, LeL, LeD]
  have hm : l[k] ∈ flagT := Decidable.byContradiction fun h9 => hc5 ((flB_0 (l[k])).2 h9)
  refine AWp.skip (blkQ_n (thenQ_n ?_))
  refine Zr (thenQ_n ?_)
  refine Zf 3 4 (.e ⟨_, ZM, k + 1, rfl, ZE, ZE, ?_, ?_⟩)
  · omega
  · exact h2.s hlt hm
 refine AWp.exit (thenQ_e (thenQ_e (blkQ_e (thenQ_n ?_))))
 refine Zp 6 ?_
 refine AWp.ret ?_
 simp only [go_sem]
 rw [h2.e (by omega)]; try simp [LeA, LeL, LeD]
end
section
open Go.RowKit
abbrev fileT : List UInt8 := [102, 105, 108, 101, 105, 110, 116, 111]
abbrev rejT : List UInt8 := [114, 101, 106, 101, 99, 116]
abbrev imapT : List UInt8 := [105, 109, 97, 112, 52, 102, 108, 97, 103, 115]
def toE (s : List UInt8) : Int := if (listR s).2 = 0 ∧ (listR s).1.length = 1 then 0 else 3
mutual
def cmdE (ks : List (List UInt8)) : Cmd → Int
 | .mk k tx t th el =>
  if k = 1 then 3
  else if k = 2 then (if ¬ tstE ks t = 0 then tstE ks t else if ¬ cmdEL ks th = 0 then cmdEL ks th else cmdEL ks el)
  else if k = 5 then (if ¬ needE ks fileT = 0 then needE ks fileT else nameE (tx.headD []))
  else if k = 7 then needE ks rejT
  else if k = 8 ∨ k = 9 then (if ¬ needE ks imapT = 0 then needE ks imapT else flE tx)
  else if k = 6 then toE (tx.headD [])
  else 0
def cmdEL (ks : List (List UInt8)) : List Cmd → Int
 | [] => 0
 | c :: l => if ¬ cmdE ks c = 0 then cmdE ks c else cmdEL ks l
end
theorem cmdE_eq (ks : List (List UInt8)) (c : Cmd) : cmdE ks c = if c.kind = 1 then 3
    else if c.kind = 2 then (if ¬ tstE ks c.test = 0 then tstE ks c.test else if ¬ cmdEL ks c.thn = 0 then cmdEL ks c.thn else cmdEL ks c.els)
    else if c.kind = 5 then (if ¬ needE ks fileT = 0 then needE ks fileT else nameE (c.texts.headD []))
    else if c.kind = 7 then needE ks rejT
    else if c.kind = 8 ∨ c.kind = 9 then (if ¬ needE ks imapT = 0 then needE ks imapT else flE c.texts)
    else if c.kind = 6 then toE (c.texts.headD [])
    else 0 := by cases c; rw [cmdE]; rfl
theorem cmdEL_t {ks : List (List UInt8)} {l : List Cmd} {k : Nat} (h : k < l.length) (hc : ¬ cmdE ks (l[k]) = 0) : cmdEL ks (l.drop k) = cmdE ks (l[k]) := by rw [List.drop_eq_getElem_cons h, cmdEL, if_pos hc]
theorem cmdEL_f {ks : List (List UInt8)} {l : List Cmd} {k : Nat} (h : k < l.length) (hc : cmdE ks (l[k]) = 0) : cmdEL ks (l.drop k) = cmdEL ks (l.drop (k + 1)) := by rw [List.drop_eq_getElem_cons h, cmdEL, if_neg (fun h9 => h9 hc)]
theorem cmdEL_e {ks : List (List UInt8)} {l : List Cmd} {k : Nat} (h : l.length ≤ k) : cmdEL ks (l.drop k) = 0 := by rw [List.drop_eq_nil_of_le h]; rfl
def Same (ks ks' : List (List UInt8)) : Prop := ∀ s, s ∈ ks ↔ s ∈ ks'
theorem Same.need {ks ks' : List (List UInt8)} (h : Same ks ks') (s : List UInt8) : needE ks s = needE ks' s := by
 unfold needE
 by_cases h1 : s ∈ ks
 ·rw [if_pos h1, if_pos ((h s).1 h1)]
 ·rw [if_neg h1, if_neg (fun h9 => h1 ((h s).2 h9))]
mutual
theorem Same.tst {ks ks' : List (List UInt8)} (h : Same ks ks') : ∀ t : Tst, tstE ks t = tstE ks' t
 | .mk k m p ns ky o li kids => by
  rw [tstE, tstE, Same.tstL h kids]
  have := h envT
  by_cases h1 : envT ∈ ks
  ·simp only [h1, this.1 h1]
  ·have h2 : ¬ envT ∈ ks' := fun h9 => h1 (this.2 h9)
   simp only [h1, h2]
theorem Same.tstL {ks ks' : List (List UInt8)} (h : Same ks ks') : ∀ l : List Tst, tstEL ks l = tstEL ks' l
 | [] => rfl
 | t :: l => by rw [tstEL, tstEL, Same.tst h t, Same.tstL h l]
end
mutual
theorem Same.cmd {ks ks' : List (List UInt8)} (h : Same ks ks') : ∀ c : Cmd, cmdE ks c = cmdE ks' c
 | .mk k tx t th el => by rw [cmdE, cmdE, Same.tst h t, Same.cmdL h th, Same.cmdL h el, h.need, h.need, h.need]
theorem Same.cmdL {ks ks' : List (List UInt8)} (h : Same ks ks') : ∀ l : List Cmd, cmdEL ks l = cmdEL ks' l
 | [] => rfl
 | c :: l => by rw [cmdEL, cmdEL, Same.cmd h c, Same.cmdL h l]
end
theorem Same.add {ks ks' : List (List UInt8)} (h : Same ks ks') (s : List UInt8) : Same (addK s ks) (ks' ++ [s]) := fun x => by
 unfold addK
 rw [List.mem_append, List.mem_singleton]
 split
 ·rename_i hs
  rw [h x]
  exact ⟨.inl, fun h9 => h9.elim id fun h8 => by rw [h8]; exact (h s).1 hs⟩
 ·rw [List.mem_append, List.mem_singleton, h x]
end
section
def btD (b : Bt) : List D := [.str b.text, .bool b.run, .bool b.quo, .bool b.apart]
def btsD (l : List Bt) : List (List D) := l.map btD
@[go_sem] theorem btsD_len (l : List Bt) : (btsD l).length = l.length := by simp [btsD]
theorem btsD_get (l : List Bt) (i : Nat) (d : List D) (h : i < l.length) : (btsD l).getD i d = btD (l[i]'h) := map_getD btD _ _ _ h
theorem btsD_none (l : List Bt) (i : Nat) (h : l.length ≤ i) : (btsD l).getD i [] = [] := by simp [btsD, List.getD, h]
def bitsV : Option (List Bt) → AV
 | some l => .tup [.d (.slc 4 (btsD l)), .d (.bool true)]
 | none => .tup [.any, .d (.bool false)]
theorem take1 {s : Tx} {i : Nat} (h : i < s.length) : (s.take (i + 1)).drop i = [s.getD i 0] := by
 have := take_step h (Nat.le_refl i) []
 simp only [List.append_nil] at this
 rw [← this]
 simp
theorem run_pos {s : Tx} {i e : Nat} (h1 : (s.take e).drop i ++ runS (s.drop e) = runS (s.drop i)) (h2 : runS (s.drop e) = []) (h3 : i < e) (h4 : e ≤ s.length) : runS (s.drop i) ≠ [] := by
 rw [h2, List.append_nil] at h1
 rw [← h1]
 intro e1
 have := congrArg List.length e1
 simp at this
 omega
theorem run_zero {s : Tx} {i e : Nat} (h1 : (s.take e).drop i ++ runS (s.drop e) = runS (s.drop i)) (h2 : runS (s.drop e) = []) (h3 : e ≤ i) (h4 : i < s.length) : runB (s.getD i 0) = false := by
 have h5 : (s.take e).drop i = [] := List.drop_eq_nil_of_le (by simp; omega)
 rw [h2, h5, List.nil_append, drop_cons h4] at h1
 cases e1 : runB (s.getD i 0) with
 | false => rfl
 | true => rw [runS_cons e1] at h1; cases h1
theorem blank_c (T : Tbl) (c : UInt8) : PC Tryz.prog T 136 [.d (.int .u8 c.toNat)] (.d (.bool (blkB c))) := by
 refine ⟨Tryz.call136, PCall.enterS Tryz.func136 rfl Tryz.ntmps136 rfl fun hb => ?_⟩
 simp only [go_sem, Tryz.results136]
 refine Zp 1 ?_
 refine Zp 2 ?_
 refine AWp.ret ?_
 simp only [go_sem]
 have e : blkB c = (decide ((c.toNat : Int) = 32) || decide ((c.toNat : Int) = 9)) := by
   unfold blkB
   congr 1 <;> rw [Bool.eq_iff_iff, beq_iff_eq, decide_eq_true_eq]
   · exact (byte_is c 32).symm
   · exact (byte_is c 9).symm
 rw [e]
attribute [local go_sem] icast in
theorem bitsOf_c (T : Tbl) (s : Tx) (hs : s.length ≤ 4294967296) : PC Tryz.prog T 146 [.d (.str s)] (bitsV (bitsS false s)) := by
 refine ⟨Tryz.call146, PCall.enterS Tryz.func146 rfl Tryz.ntmps146 rfl fun hb => ?_⟩
 simp only [go_sem, Tryz.results146]
 refine Zp 1 ?_
 refine Zp 3 ?_
 refine Zy ?_
 refine AWp.ownNilS 4 4 rfl rfl (by decide) fun t0 ft0 => ?_
 try simp only [freshT] at ft0
 refine Zy ?_
 refine Zp 7 ?_
 refine Zs (Zp 15 ?_)
 refine AWp.block (Zy ?_)
 refine Zl 1 14 (fun n lc hc => ∃ (i v : Nat) (ap : Bool) (Y : List Bt), n = s.length - i ∧ EqS lc [(4, .own v 4 (btsD Y)), (5, .d (.bool ap)), (6, .d (.int .i64 i))] ∧ EqS hc (⟨[], [v]⟩) ∧ (i ≤ s.length) ∧ (Y.length ≤ i) ∧ ((bitsS ap (s.drop i)).map (Y ++ ·) = bitsS false s)) ?_ ?_
 · refine ⟨_, 0, t0, false, [], rfl, ?_, ZE, ?_, ?_, ?_⟩
   · (try simp only [go_sem]) <;> first | exact ⟨rfl⟩ | (constructor; simp [btsD]; done)
   all_goals (first | omega | (simp; done) | (cases bitsS false s <;> rfl))
 rintro _ _ _ ⟨i, v, ap, Y, rfl, ⟨rfl⟩, ⟨rfl⟩, h1, h2, h3⟩
 refine Zy ?_
 refine Zs (Zp 143 ?_)
 refine Zc (fun hc0 => ?_) fun hc0 => ?_
 ·
  have hlt : i < s.length := by omega
  have hd := drop_cons hlt
  refine Zk ?_
  refine AWp.block (Zs (Zx (Z3 ?_)))
  refine ZP (blank_c T _) ?_
  refine Zy ?_
  refine Zm 271 ?_
  refine Zc (fun hc1 => ?_) fun hc1 => ?_
  ·
   have hst : bitsS ap (s.drop i) = bitsS true (s.drop (i + 1)) := by rw [hd, bits_blank hc1]
   refine Zp 15 ?_
   refine Zp 15 ?_
   refine AWp.exit (thenQ_e (blkQ_e (thenQ_n ?_)))
   refine Ze 1 14 [] [] [] [v] (.e ⟨_, ZM, (i + 1), v, true, Y, rfl, ?_, ZE, ?_, ?_, ?_⟩)
   · (try simp only [go_sem]) <;> first | exact ⟨rfl⟩ | (constructor; first | (simp [btsD, btD, take1 hlt]; done) | (simp [btsD, btD]; done))
   · omega
   · first | omega | (simp; omega)
   · first | (rw [← h3, hst]; done) | (rw [← h3, hst]; cases bitsS true (s.drop (i + 1)) <;> simp)
  refine Zk ?_
  refine Zp 31 ?_
  refine Zs (AWp.block (Zy ?_))
  refine Zl 15 16 (fun n lc hc => ∃ (e : Nat), n = s.length - e ∧ EqS lc [(7, .d (.int .i64 e))] ∧ EqS hc (⟨[], [v]⟩) ∧ (i ≤ e) ∧ (e ≤ s.length) ∧ (offS (s.drop e) = offS (s.drop i)) ∧ ((s.take e).drop i ++ runS (s.drop e) = runS (s.drop i))) ?_ ?_
  · refine ⟨_, i, rfl, ZE, ZE, ?_, ?_, ?_, ?_⟩
    all_goals (first | omega | rfl | (simp; done))
  rintro _ _ _ ⟨e, rfl, ⟨rfl⟩, ⟨rfl⟩, g1, g2, g3, g4⟩
  refine Zy ?_
  refine Zs (Zx (Zy ?_))
  (repeat (with_reducible refine And.intro ZS ?_))
  refine DW.pcgr rfl rfl rfl rfl rfl (fun hg => atomByte_p T _) (fun hg => by (try simp only [go_sem]) <;> first | exact hg | (exfalso; simp at hg; done) | (simpa using hg) | grind) rfl rfl ?_
  refine Zy ?_
  (repeat (with_reducible refine And.intro ZS ?_))
  refine Zm 1048607 ?_
  refine Zc (fun hc2 => ?_) fun hc2 => ?_
  ·
   have hrb : ∀ h, runB (s.getD e 0) = true := fun (h : (atomB (s.getD e 0) = true ∨ ((s.getD e 0).toNat : Int) = 46)) => by rw [runB_eq]; simpa using h
   refine Zk ?_
   refine AWp.block (Zr (blkQ_n (thenQ_n ?_)))
   refine Zf 15 16 (.e ⟨_, ZM, e + 1, rfl, ZE, ZE, ?_, ?_, ?_, ?_⟩)
   · omega
   · omega
   · rw [← (run_step (by omega) (hrb hc2.2)).2]; exact g3
   · rw [(run_step (by omega) (hrb hc2.2)).1, take_step (by omega) g1] at g4; exact g4
  have he := run_end (s := s) (j := e) (fun hj => by
    rw [runB_eq]
    rcases hc2 with hc2 | hc2
    · omega
    · simpa using hc2)
  refine AWp.exit (thenQ_e (thenQ_e (blkQ_e (thenQ_n ?_))))
  refine Zs (Zp 287 ?_)
  refine Zc (fun hc3 => ?_) fun hc3 => ?_
  ·
   have hrne := run_pos g4 he.1 (by omega) g2
   have hru : runS (s.drop i) = (s.take e).drop i := by rw [← g4, he.1, List.append_nil]
   have hst : bitsS ap (s.drop i) = (bitsS false (s.drop e)).map (⟨(s.take e).drop i, true, false, ap⟩ :: ·) := by rw [bits_runs hrne, hru, ← g3, he.2]
   refine Zx (Zy ?_)
   (repeat (with_reducible refine And.intro ZS ?_))
   refine DW.app rfl rfl rfl rfl (show slI Tryz.prog 215 = some (221, 4, 24) by simp only [go_sem]) rfl rfl (by simp only [go_sem]) (by first | exact .inl rfl | exact .inr rfl) (by (try simp only [go_sem]); omega) (by (try simp only [go_sem]); omega) fun t1 ft1 => ?_
   try simp only [freshT] at ft1
   refine Zy ?_
   refine Zm 19 ?_
   refine Zp 15 ?_
   refine Zp 15 ?_
   refine AWp.exit (thenQ_e (blkQ_e (thenQ_n ?_)))
   refine Ze 1 14 [] [] [] [t1] (.e ⟨_, ZM, e, t1, false, (Y ++ [⟨(s.take e).drop i, true, false, ap⟩]), rfl, ?_, ZE, ?_, ?_, ?_⟩)
   · (try simp only [go_sem]) <;> first | exact ⟨rfl⟩ | (constructor; first | (simp [btsD, btD]; done) | (simp [btsD, btD]; done))
   · omega
   · first | omega | (simp; omega)
   · first | (rw [← h3, hst]; done) | (rw [← h3, hst]; cases bitsS false (s.drop e) <;> simp)
  have hru := run_zero g4 he.1 (by omega) hlt
  refine Zk ?_
  refine Zs (Zp 527 ?_)
  refine Zc (fun hc4 => ?_) fun hc4 => ?_
  ·
   have hne : s.getD i 0 ≠ 34 := fun h => hc4 (by rw [h]; rfl)
   have hst : bitsS ap (s.drop i) = (bitsS false (s.drop (i + 1))).map (⟨[s.getD i 0], false, false, ap⟩ :: ·) := by rw [hd, bits_one hc1 hru hne]
   refine Zx (Zy ?_)
   (repeat (with_reducible refine And.intro ZS ?_))
   refine DW.app rfl rfl rfl rfl (show slI Tryz.prog 215 = some (221, 4, 24) by simp only [go_sem]) rfl rfl (by simp only [go_sem]) (by first | exact .inl rfl | exact .inr rfl) (by (try simp only [go_sem]); omega) (by (try simp only [go_sem]); omega) fun t2 ft2 => ?_
   try simp only [freshT] at ft2
   refine Zy ?_
   refine Zm 11 ?_
   refine Zp 15 ?_
   refine Zp 15 ?_
   refine AWp.exit (thenQ_e (blkQ_e (thenQ_n ?_)))
   refine Ze 1 14 [] [] [] [t2] (.e ⟨_, ZM, (i + 1), t2, false, (Y ++ [⟨[s.getD i 0], false, false, ap⟩]), rfl, ?_, ZE, ?_, ?_, ?_⟩)
   · (try simp only [go_sem]) <;> first | exact ⟨rfl⟩ | (constructor; first | (simp [btsD, btD, take1 hlt]; done) | (simp [btsD, btD]; done))
   · omega
   · first | omega | (simp; omega)
   · first | (rw [← h3, hst]; done) | (rw [← h3, hst]; cases bitsS false (s.drop (i + 1)) <;> simp)
  have h34 : s.getD i 0 = 34 := (byte_is _ 34).1 hc4
  rw [h34] at hd
  refine Zk ?_
  refine Zp 23 ?_
  refine Zs (AWp.block (Zy ?_))
  refine Zl 7 8 (fun n lc hc => ∃ (e : Nat), n = s.length + 2 - e ∧ EqS lc [(7, .d (.int .i64 e))] ∧ EqS hc (⟨[], [v]⟩) ∧ (i + 1 ≤ e) ∧ (quoS (s.drop e) = quoS (s.drop (i + 1)))) ⟨_, (i + 1), rfl, ZE, ZE, ZI, ZI⟩ ?_
  rintro _ _ _ ⟨e, rfl, ⟨rfl⟩, ⟨rfl⟩, k1, k2⟩
  refine Zy ?_
  refine Zs (Zp 8207 ?_)
  refine Zc (fun hc5 => ?_) fun hc5 => ?_
  ·
   have hel : e < s.length := by omega
   have hed := drop_cons hel
   have hn34 : s.getD e 0 ≠ 34 := fun h => hc5.2 (by rw [h]; rfl)
   refine Zk ?_
   refine AWp.block (Zs (Zp 271 ?_))
   refine Zc (fun hc6 => ?_) fun hc6 => ?_
   ·
    have h92 : s.getD e 0 = 92 := (byte_is _ 92).1 hc6
    have hsq : quoS (s.drop e) = quoS (s.drop (e + 1 + 1)) := by
      rw [hed, h92]
      rcases Nat.lt_or_ge (e + 1) s.length with h | h
      · rw [drop_cons h, quo_esc]
      · rw [drop_none h, drop_none (by omega)]; exact quo_esc1
    refine Zr (thenQ_n ?_)
    refine Zr (blkQ_n (thenQ_n ?_))
    refine Zf 7 8 (.e ⟨_, ZM, (e + 1 + 1), rfl, ZE, ZE, ?_, ?_⟩)
    · omega
    · rw [← k2]; exact hsq.symm
   have hsq : quoS (s.drop e) = quoS (s.drop (e + 1)) := by rw [hed]; exact quo_step hn34 (fun h => hc6 (by rw [h]; rfl))
   refine Zk ?_
   refine Zr (blkQ_n (thenQ_n ?_))
   refine Zf 7 8 (.e ⟨_, ZM, (e + 1), rfl, ZE, ZE, ?_, ?_⟩)
   · omega
   · rw [← k2]; exact hsq.symm
  refine AWp.exit (thenQ_e (thenQ_e (blkQ_e (thenQ_n ?_))))
  refine Zs (Zp 271 ?_)
  refine Zc (fun hc7 => ?_) fun hc7 => ?_
  ·
   have hq : quoS (s.drop (i + 1)) = none := by rw [← k2, drop_none (by omega)]; rfl
   refine Zp 6 ?_
   refine AWp.ret ?_
   simp only [go_sem]
   have hn : bitsS false s = none := by rw [← h3, hd, bits_quoN hq]; rfl
   rw [hn]; simp [bitsV, LeA, LeL, LeD]
  have hel : e < s.length := by omega
  have h34e : s.getD e 0 = 34 := (byte_is _ 34).1 (by
    rcases hc5 with hc5 | hc5
    · omega
    · exact hc5)
  have hq : quoS (s.drop (i + 1)) = some (s.drop (e + 1)) := by rw [← k2, drop_cons hel, h34e, quo_end]
  have hst : bitsS ap (s.drop i) = (bitsS false (s.drop (e + 1))).map (⟨[], false, true, ap⟩ :: ·) := by rw [hd, bits_quoS hq]
  refine Zk ?_
  refine Zx (Zy ?_)
  refine ZW fun t3 ft3 => ?_
  try simp only [freshT] at ft3
  refine Zy ?_
  refine Zm 11 ?_
  refine Zp 15 ?_
  refine Zr (blkQ_n (thenQ_n ?_))
  refine Ze 1 14 [] [] [] [t3] (.e ⟨_, ZM, (e + 1), t3, false, (Y ++ [⟨[], false, true, ap⟩]), rfl, ?_, ZE, ?_, ?_, ?_⟩)
  · (try simp only [go_sem]) <;> first | exact ⟨rfl⟩ | (constructor; first | (simp [btsD, btD]; done) | (simp [btsD, btD]; done))
  · omega
  · first | omega | (simp; omega)
  · first | (rw [← h3, hst]; done) | (rw [← h3, hst]; cases bitsS false (s.drop (e + 1)) <;> simp)
 refine AWp.exit (thenQ_e (thenQ_e (blkQ_e (thenQ_n ?_))))
 refine Zm 2 ?_
 refine Zp 3 ?_
 refine AWp.ret ?_
 simp only [go_sem]
 have hn : bitsS false s = some Y := by rw [← h3, drop_none (by omega), bits_nil]; simp
 rw [hn]; simp [bitsV, LeA, LeL, LeD]
theorem icast2 (n : Nat) : (n : Int) + 2 = ((n + 2 : Nat) : Int) := rfl
theorem icast3 (n : Nat) : (n : Int) + 3 = ((n + 3 : Nat) : Int) := rfl
theorem icast4 (n : Nat) : (n : Int) + 4 = ((n + 4 : Nat) : Int) := rfl
theorem icast5 (n : Nat) : (n : Int) + 5 = ((n + 5 : Nat) : Int) := rfl
def plainV : Option (Ad × List Bt) → AV
 | some (a, _) => .tup [.agg [.d (.str a.1), .d (.str a.2)], .d (.int .i64 3)]
 | none => .tup [.agg [.d (.str []), .d (.str [])], .d (.int .i64 0)]
theorem plain_in {l : List Bt} {i : Nat} (h : i + 2 < l.length) : plainB (l.drop i) = if l[i].run = true ∧ l[i + 1].text = [64] ∧ l[i + 2].run = true ∧ l[i + 1].apart = false ∧ l[i + 2].apart = false ∧ adrE l[i].text l[i + 2].text = 0 then some ((l[i].text, l[i + 2].text), l.drop (i + 3)) else none := by
 rw [List.drop_eq_getElem_cons (by omega : i < l.length), List.drop_eq_getElem_cons (by omega : i + 1 < l.length), List.drop_eq_getElem_cons (by omega : i + 1 + 1 < l.length)]
 rfl
theorem plain_out {l : List Bt} {i : Nat} (h : l.length ≤ i + 2) : plainB (l.drop i) = none := by
 cases e : plainB (l.drop i) with
 | none => rfl
 | some x => obtain ⟨a, t⟩ := x; have := plainB_len e; simp at this; omega
def Short (l : List Bt) : Prop := ∀ x ∈ l, x.text.length ≤ 4294967296
theorem Short.at {l : List Bt} (h : Short l) {i : Nat} (hi : i < l.length) : (l[i]'hi).text.length ≤ 4294967296 := h _ (List.getElem_mem hi)
attribute [local go_sem] icast icast2 decide_false decide_true Bool.false_or Bool.true_or Bool.not_true Bool.not_false Bool.false_eq_true Bool.true_eq_false and_true true_and btD in
theorem plainAt_c (T : Tbl) (hL : LibT T) (l : List Bt) (i : Nat) (hs : Short l) (hi : i ≤ 4294967296) (hl : l.length ≤ 4294967296) : PC Tryz.prog T 230 [.d (.slc 4 (btsD l)), .d (.int .i64 i)] (plainV (plainB (l.drop i))) := by
 refine ⟨Tryz.call230, PCall.enterS Tryz.func230 rfl Tryz.ntmps230 rfl fun hb => ?_⟩
 simp only [go_sem, Tryz.results230]
 refine Zx (Zy ?_)
 intro b4
 first | intro fb4 | have fb4 := True.intro
 try simp only [freshL] at fb4
 refine Zs ?_
 rcases Nat.lt_or_ge (i + 2) l.length with hlt | hlt
 ·
  have hge : ((l.length : Int) ≤ ((i + 2 : Nat) : Int)) = False := by simp; omega
  have e0 := btsD_get l i [] (by omega)
  have e1 := btsD_get l (i + 1) [] (by omega)
  have e2 := btsD_get l (i + 2) [] (by omega)
  have zf1 := fun d0_ => btsD_get l i d0_ (by omega)
  have zf2 := fun d0_ => btsD_get l (i + 1) d0_ (by omega)
  have zf3 := fun d0_ => btsD_get l (i + 2) d0_ (by omega)
  refine Zp 1125899906842631 ?_
  refine Zc (fun hc0 => ?_) fun hc0 => ?_
  ·
   refine Zp 12 ?_
   refine AWp.ret ?_
   simp only [go_sem]
   first | (rw [plain_out hlt]; simp [plainV, LeA, LeL, LeD]; done) | (rw [plain_in hlt, if_neg (fun h => by simp [h] at hc0)]; simp [plainV, LeA, LeL, LeD])
  refine Zk ?_
  refine AWp.trees true (.seg 0 (.seg 1 (.seg 2 (.seg 3 (.seg 5 (.seg 6 (.seg 7 (.seg 8 (.seg 9 (.many (.alt 4 (.many (.alt 10 (.seg 11 (.seg 12 (.seg 13 (.done)))) (.alt 12 (.seg 10 (.seg 11 (.seg 13 (.done)))) (.nil)))) (.alt 10 (.many (.alt 4 (.seg 11 (.seg 12 (.seg 13 (.done)))) (.alt 12 (.seg 4 (.seg 11 (.seg 13 (.done)))) (.nil)))) (.alt 12 (.seg 4 (.seg 10 (.seg 11 (.seg 13 (.done))))) (.nil)))))))))))))) rfl (by kernel_rfl) fun K_ hK_ => ?_
  simp only [go_sem, zf1, zf3]
  (repeat (with_reducible refine And.intro ZS ?_))
  intro b6
  first | intro fb6 | have fb6 := True.intro
  try simp only [freshL] at fb6
  refine hK_ _ _ ?_
  refine Zm 12 ?_
  refine Zs (Zx ?_)
  simp only [go_sem, fb6]
  refine ZP (addrFault_bp T _ _ (by have := hs.at (i := i) (by omega); omega) (by have := hs.at (i := i + 2) (by omega); omega)) ?_
  refine Zy ?_
  refine Zc (fun hc1 => ?_) fun hc1 => ?_
  ·
   refine Zp 3 ?_
   refine AWp.ret ?_
   simp only [go_sem, fb6]
   rw [plain_in hlt, if_neg (fun h => hc1 h.2.2.2.2.2)]; simp [plainV, LeA, LeL, LeD]
  refine Zk ?_
  refine Zp 3 ?_
  refine AWp.ret ?_
  simp only [go_sem, fb6]
  rw [plain_in hlt, if_pos ⟨hc0.1.1.1.1, hc0.1.1.1.2, hc0.1.1.2, hc0.1.2, hc0.2, hc1⟩]; simp [plainV, LeA, LeL, LeD]
 have hge : ((l.length : Int) ≤ ((i + 2 : Nat) : Int)) = True := by simp; omega
 refine Zp 1125899906842631 ?_
 refine Zc (fun hc0 => ?_) fun hc0 => ?_
 ·
  refine Zp 12 ?_
  refine AWp.ret ?_
  simp only [go_sem]
  first | (rw [plain_out hlt]; simp [plainV, LeA, LeL, LeD]; done) | (rw [plain_in hlt, if_neg (fun h => by simp [h] at hc0)]; simp [plainV, LeA, LeL, LeD])
 exact absurd hc0 (by first | (simp; done) | omega | (simp [*]; done))
end
section
def addrV (n : Nat) : Option (Ad × List Bt) → AV
 | some (a, t) => .tup [.agg [.d (.str a.1), .d (.str a.2)], .d (.int .i64 (n - t.length : Int))]
 | none => .tup [.agg [.d (.str []), .d (.str [])], .d (.int .i64 (-1))]
theorem plain_t {l : List Bt} {i : Nat} {a : Ad} {t : List Bt} (h : plainB (l.drop i) = some (a, t)) : t = l.drop (i + 3) ∧ i + 3 ≤ l.length := by
 have h1 := plainB_len h
 simp at h1
 refine ⟨?_, by omega⟩
 rcases Nat.lt_or_ge (i + 2) l.length with h2 | h2
 ·rw [plain_in h2] at h
  split at h
  ·injection h with h; injection h with _ h; exact h.symm
  ·cases h
 ·rw [plain_out h2] at h; cases h
theorem plainAt_none (T : Tbl) (hL : LibT T) (l : List Bt) (i : Nat) (hs : Short l) (hi : i ≤ 4294967296) (hl : l.length ≤ 4294967296) (hp : plainB (l.drop i) = none) : PC Tryz.prog T 230 [.d (.slc 4 (btsD l)), .d (.int .i64 i)] (.tup [.agg [.d (.str []), .d (.str [])], .d (.int .i64 0)]) := by
 have := plainAt_c T hL l i hs hi hl
 rw [hp] at this; exact this
theorem plainAt_some (T : Tbl) (hL : LibT T) (l : List Bt) (i : Nat) (hs : Short l) (hi : i ≤ 4294967296) (hl : l.length ≤ 4294967296) (a : Ad) (t : List Bt) (hp : plainB (l.drop i) = some (a, t)) : PC Tryz.prog T 230 [.d (.slc 4 (btsD l)), .d (.int .i64 i)] (.tup [.agg [.d (.str a.1), .d (.str a.2)], .d (.int .i64 3)]) := by
 have := plainAt_c T hL l i hs hi hl
 rw [hp] at this; exact this
theorem dropw_step {l : List Bt} {k : Nat} (h : k < l.length) (hw : wordB l[k] = true) : (l.drop k).dropWhile wordB = (l.drop (k + 1)).dropWhile wordB := by
 rw [List.drop_eq_getElem_cons h, List.dropWhile_cons, if_pos hw]
theorem dropw_end {l : List Bt} {k : Nat} (h : ∀ hk : k < l.length, wordB l[k] = false) : (l.drop k).dropWhile wordB = l.drop k := by
 rcases Nat.lt_or_ge k l.length with hk | hk
 ·rw [List.drop_eq_getElem_cons hk, List.dropWhile_cons, if_neg (by rw [h hk]; decide)]
 ·rw [List.drop_eq_nil_of_le hk]; rfl
theorem ang_nil {l : List Bt} {k : Nat} (h : l.length ≤ k) : angB (l.drop k) = none := by rw [List.drop_eq_nil_of_le h]; rfl
theorem ang_ne {l : List Bt} {k : Nat} (h : k < l.length) (hx : l[k].text ≠ [60]) : angB (l.drop k) = none := by
 rw [List.drop_eq_getElem_cons h]; simp [angB, hx]
theorem ang_np {l : List Bt} {k : Nat} (h : k < l.length) (hp : plainB (l.drop (k + 1)) = none) : angB (l.drop k) = none := by
 rw [List.drop_eq_getElem_cons h]; simp [angB, hp]
theorem ang_p {l : List Bt} {k : Nat} (h : k < l.length) (hx : l[k].text = [60]) {a : Ad} {t : List Bt} (hp : plainB (l.drop (k + 1)) = some (a, t)) (h1 : k + 1 < l.length) : angB (l.drop k) = if h4 : k + 4 < l.length then (if l[k + 1].apart = false ∧ l[k + 4].text = [62] ∧ l[k + 4].apart = false then some (a, l.drop (k + 5)) else none) else none := by
 obtain ⟨ht, hle⟩ := plain_t hp
 have hh : (l.drop (k + 1)).head?.map Bt.apart = some l[k + 1].apart := by rw [List.drop_eq_getElem_cons h1]; rfl
 rw [List.drop_eq_getElem_cons h]
 simp only [angB, hx, if_true, hp, hh, Option.some.injEq]
 subst ht
 rcases Nat.lt_or_ge (k + 4) l.length with h4 | h4
 ·rw [dif_pos h4, List.drop_eq_getElem_cons (show k + 1 + 3 < l.length by omega)]
 ·rw [dif_neg (by omega), List.drop_eq_nil_of_le (by omega)]
theorem addrB_some {l : List Bt} {x : Ad × List Bt} (h : plainB l = some x) : addrB l = some x := by unfold addrB; rw [h]
theorem addrB_none {l : List Bt} (h : plainB l = none) : addrB l = angB (l.dropWhile wordB) := by unfold addrB; rw [h]
theorem b30 : ((3 : Int) = 0) = False := by simp
theorem b00 : ((0 : Int) = 0) = True := by simp
theorem b03 : ((0 : Int) < 3) = True := by simp
theorem b000 : ((0 : Int) < 0) = False := by simp
theorem intF {a b : Nat} (h : b ≤ a) : ((a : Int) < (b : Int)) = False := by simp; omega
theorem intT {a b : Nat} (h : a < b) : ((a : Int) < (b : Int)) = True := by simp; omega
theorem inlF {a b : Nat} (h : b < a) : ((a : Int) ≤ (b : Int)) = False := by simp; omega
theorem inlT {a b : Nat} (h : a ≤ b) : ((a : Int) ≤ (b : Int)) = True := by simp; omega
attribute [local go_sem] icast icast3 icast4 icast5 decide_false decide_true Bool.false_or Bool.true_or Bool.false_and Bool.true_and Bool.not_true Bool.not_false Bool.false_eq_true Bool.true_eq_false and_true true_and b30 b00 b03 b000 btD List.drop_nil List.take_nil List.map_nil List.headD_nil in
theorem addressAt_c (T : Tbl) (hL : LibT T) (l : List Bt) (i : Nat) (hs : Short l) (hi : i ≤ 4294967296) (hl : l.length ≤ 4294967296) : PC Tryz.prog T 147 [.d (.slc 4 (btsD l)), .d (.int .i64 i)] (addrV l.length (addrB (l.drop i))) := by
 refine ⟨Tryz.call147, PCall.enterS Tryz.func147 rfl Tryz.ntmps147 rfl fun hb => ?_⟩
 simp only [go_sem, Tryz.results147]
 refine Zx (Zy ?_)
 intro b4
 first | intro fb4 | have fb4 := True.intro
 try simp only [freshL] at fb4
 rcases hp : plainB (l.drop i) with _ | x
 ·
  refine Zx (Zy ?_)
  refine ZP (plainAt_none T hL l i hs hi hl hp) ?_
  refine Zy ?_
  intro b6
  first | intro fb6 | have fb6 := True.intro
  try simp only [freshL] at fb6
  refine Zm 55 ?_
  refine Zs (Zp 79 ?_)
  refine Zc (fun hc0 => ?_) fun hc0 => ?_
  ·
   exact absurd hc0 (by first | (simp; done) | omega | (simp [*]; done))
  refine Zk ?_
  refine Zs (AWp.block (Zn 15 ?_))
  refine Zl 13 2 (fun n lc hc => ∃ (k : Nat), n = l.length - k ∧ EqS lc [(1, .d (.int .i64 k))] ∧ EqS hc (⟨[(b6, ⟨2, 1, [[.d (.str []), .d (.str [])]]⟩), (b4, ⟨2, 1, [[.d (.str []), .d (.str [])]]⟩)], []⟩) ∧ (i ≤ k) ∧ (k ≤ 4294967296) ∧ ((l.drop k).dropWhile wordB = (l.drop i).dropWhile wordB)) ?_ ?_
  · refine ⟨_, i, rfl, ZE, ZE, ?_, ?_, ?_⟩
    all_goals (first | omega | rfl)
  rintro _ _ _ ⟨k, rfl, ⟨rfl⟩, ⟨rfl⟩, h1, h2, h3⟩
  refine Zy ?_
  refine Zs ?_
  rcases Nat.lt_or_ge k l.length with hlt | hlt
  ·
   have zf1 := fun d0_ => btsD_get l k d0_ hlt
   have zf2 := intT hlt
   have zf3 := inlF hlt
   refine Zp 2097167 ?_
   refine Zc (fun hc1 => ?_) fun hc1 => ?_
   ·
    refine Zk ?_
    refine AWp.block (Zr (blkQ_n (thenQ_n ?_)))
    refine Ze 13 2 [] [] [b6, b4] [] (.e ⟨_, ZM, k + 1, rfl, ZE, ZE, ?_, ?_, ?_⟩)
    · omega
    · omega
    · rw [← dropw_step hlt (by simpa [wordB] using hc1)]; exact h3
   have hdw : (l.drop i).dropWhile wordB = l.drop k := by
     rw [← h3]
     exact dropw_end (fun hk => by first | (exfalso; omega) | (unfold wordB; simpa using hc1))
   refine AWp.exit (thenQ_e (thenQ_e (blkQ_e (thenQ_n ?_))))
   refine Zs (Zp 65551 ?_)
   refine Zc (fun hc2 => ?_) fun hc2 => ?_
   ·
    refine Zp 12 ?_
    refine AWp.ret ?_
    simp only [go_sem, fb6]
    rw [addrB_none hp, hdw]; first | rw [ang_nil hlt] | rw [ang_ne hlt (by simpa using hc2)]
    simp [addrV, LeA, LeL, LeD]
   refine Zk ?_
   rcases hp2 : plainB (l.drop (k + 1)) with _ | x
   ·
    refine Z1 31 (plainAt_none T hL l (k + 1) hs (by omega) hl hp2) ?_
    refine Zs (Zp 274877906958 ?_)
    refine Zc (fun hc3 => ?_) fun hc3 => ?_
    ·
     refine Zp 6 ?_
     refine AWp.ret ?_
     simp only [go_sem, fb6]
     have h60 : l[k].text = [60] := by simpa using hc2
     rw [addrB_none hp, hdw]
     first
     | rw [ang_np hlt hp2]
     | rw [ang_p hlt h60 hp2 (by omega), dif_neg (by omega)]
     | rw [ang_p hlt h60 hp2 (by omega), dif_pos hlt4, if_neg (fun h => by simp [h] at hc3)]
     simp [addrV, LeA, LeL, LeD]
    exact absurd hc3 (by first | (simp; done) | omega | (simp [*]; done))
   obtain ⟨a, t⟩ := x
   obtain ⟨rfl, hle⟩ := plain_t hp2
   refine Zx (Zy ?_)
   (repeat (with_reducible refine And.intro ZS ?_))
   refine DW.pcr rfl rfl rfl rfl (plainAt_some T hL l (k + 1) hs (by omega) hl a _ hp2) rfl rfl ?_
   simp only [go_sem, fb6]
   refine Zm 31 ?_
   refine Zs ?_
   rcases Nat.lt_or_ge (k + 4) l.length with hlt4 | hlt4
   ·
    have zf4 := fun d0_ => btsD_get l (k + 1) d0_ (by omega)
    have zf5 := fun d0_ => btsD_get l (k + 4) d0_ hlt4
    have zf6 := inlF hlt4
    refine Zp 274877906958 ?_
    refine Zc (fun hc3 => ?_) fun hc3 => ?_
    ·
     refine Zp 6 ?_
     refine AWp.ret ?_
     simp only [go_sem, fb6]
     have h60 : l[k].text = [60] := by simpa using hc2
     rw [addrB_none hp, hdw]
     first
     | rw [ang_np hlt hp2]
     | rw [ang_p hlt h60 hp2 (by omega), dif_neg (by omega)]
     | rw [ang_p hlt h60 hp2 (by omega), dif_pos hlt4, if_neg (fun h => by simp [h] at hc3)]
     simp [addrV, LeA, LeL, LeD]
    refine Zk ?_
    refine Zp 6 ?_
    refine AWp.ret ?_
    simp only [go_sem, fb6]
    have h60 : l[k].text = [60] := by simpa using hc2
    rw [addrB_none hp, hdw, ang_p hlt h60 hp2 (by omega), dif_pos hlt4, if_pos ⟨hc3.1.1, hc3.1.2, hc3.2⟩]
    simp [addrV, LeA, LeL, LeD]
    omega
   have zf7 := fun d0_ => btsD_get l (k + 1) d0_ (by omega)
   have zf8 := inlT hlt4
   refine Zp 274877906958 ?_
   refine Zc (fun hc3 => ?_) fun hc3 => ?_
   ·
    refine Zp 6 ?_
    refine AWp.ret ?_
    simp only [go_sem, fb6]
    have h60 : l[k].text = [60] := by simpa using hc2
    rw [addrB_none hp, hdw]
    first
    | rw [ang_np hlt hp2]
    | rw [ang_p hlt h60 hp2 (by omega), dif_neg (by omega)]
    | rw [ang_p hlt h60 hp2 (by omega), dif_pos hlt4, if_neg (fun h => by simp [h] at hc3)]
    simp [addrV, LeA, LeL, LeD]
   exact absurd hc3 (by first | (simp; done) | omega | (simp [*]; done))
  have zf9 := intF hlt
  have zf10 := inlT hlt
  have zf11 := btsD_none l k hlt
  refine Zp 2097167 ?_
  refine Zc (fun hc1 => ?_) fun hc1 => ?_
  ·
   exact absurd hc1 (by first | (simp; done) | omega | (simp [*]; done))
  have hdw : (l.drop i).dropWhile wordB = l.drop k := by
    rw [← h3]
    exact dropw_end (fun hk => by first | (exfalso; omega) | (unfold wordB; simpa using hc1))
  refine AWp.exit (thenQ_e (thenQ_e (blkQ_e (thenQ_n ?_))))
  refine Zs (Zp 65551 ?_)
  refine Zc (fun hc2 => ?_) fun hc2 => ?_
  ·
   refine Zp 12 ?_
   refine AWp.ret ?_
   simp only [go_sem, fb6]
   rw [addrB_none hp, hdw]; first | rw [ang_nil hlt] | rw [ang_ne hlt (by simpa using hc2)]
   simp [addrV, LeA, LeL, LeD]
  exact absurd hc2 (by first | (simp; done) | omega | (simp [*]; done))
 obtain ⟨a, t⟩ := x
 obtain ⟨rfl, hle⟩ := plain_t hp
 refine Zx (Zy ?_)
 refine ZP (plainAt_some T hL l i hs hi hl a _ hp) ?_
 refine Zy ?_
 intro b6
 first | intro fb6 | have fb6 := True.intro
 try simp only [freshL] at fb6
 refine Zm 55 ?_
 refine Zs (Zp 79 ?_)
 refine Zc (fun hc0 => ?_) fun hc0 => ?_
 ·
  refine Zp 12 ?_
  refine AWp.ret ?_
  simp only [go_sem, fb6]
  rw [addrB_some hp]; simp [addrV, LeA, LeL, LeD]; omega
 exact absurd hc0 (by first | (simp; done) | omega | (simp [*]; done))
end
section
theorem dropw_drop (l : List Bt) (i : Nat) : ∃ k, i ≤ k ∧ (l.drop i).dropWhile wordB = l.drop k := by
 obtain ⟨t, ht⟩ := List.dropWhile_suffix (l := l.drop i) wordB
 refine ⟨i + t.length, by omega, ?_⟩
 have h2 : List.drop t.length (t ++ List.dropWhile wordB (l.drop i)) = List.dropWhile wordB (l.drop i) := by simp
 rw [ht, List.drop_drop] at h2
 exact h2.symm
theorem ang_t {l : List Bt} {k : Nat} {a : Ad} {t : List Bt} (h : angB (l.drop k) = some (a, t)) : t = l.drop (k + 5) ∧ k + 5 ≤ l.length := by
 rcases Nat.lt_or_ge k l.length with hk | hk
 ·by_cases hx : l[k].text = [60]
  ·cases hp : plainB (l.drop (k + 1)) with
   | none => rw [ang_np hk hp] at h; cases h
   | some x =>
    obtain ⟨a', t'⟩ := x
    obtain ⟨_, hle⟩ := plain_t hp
    rw [ang_p hk hx hp (by omega)] at h
    split at h
    ·split at h
     ·injection h with h; injection h with _ h; exact ⟨h.symm, by omega⟩
     ·cases h
    ·cases h
  ·rw [ang_ne hk hx] at h; cases h
 ·rw [ang_nil hk] at h; cases h
theorem addr_t {l : List Bt} {i : Nat} {a : Ad} {t : List Bt} (h : addrB (l.drop i) = some (a, t)) : ∃ e, i < e ∧ e ≤ l.length ∧ t = l.drop e := by
 cases hp : plainB (l.drop i) with
 | some x =>
  rw [addrB_some hp] at h
  injection h with h; subst h
  obtain ⟨h1, h2⟩ := plain_t hp
  exact ⟨i + 3, by omega, h2, h1⟩
 | none =>
  rw [addrB_none hp] at h
  obtain ⟨k, hk, e⟩ := dropw_drop l i
  rw [e] at h
  obtain ⟨h1, h2⟩ := ang_t h
  exact ⟨k + 5, by omega, h2, h1⟩
theorem addressAt_none (T : Tbl) (hL : LibT T) (l : List Bt) (i : Nat) (hs : Short l) (hi : i ≤ 4294967296) (hl : l.length ≤ 4294967296) (hp : addrB (l.drop i) = none) : PC Tryz.prog T 147 [.d (.slc 4 (btsD l)), .d (.int .i64 i)] (.tup [.agg [.d (.str []), .d (.str [])], .d (.int .i64 (-1))]) := by
 have := addressAt_c T hL l i hs hi hl
 rw [hp] at this; exact this
theorem addressAt_some (T : Tbl) (hL : LibT T) (l : List Bt) (i e : Nat) (hs : Short l) (hi : i ≤ 4294967296) (hl : l.length ≤ 4294967296) (a : Ad) (he : e ≤ l.length) (hp : addrB (l.drop i) = some (a, l.drop e)) : PC Tryz.prog T 147 [.d (.slc 4 (btsD l)), .d (.int .i64 i)] (.tup [.agg [.d (.str a.1), .d (.str a.2)], .d (.int .i64 e)]) := by
 have := addressAt_c T hL l i hs hi hl
 rw [hp] at this
 simp only [addrV, List.length_drop] at this
 rw [show ((l.length : Int) - ((l.length - e : Nat) : Int)) = e by omega] at this
 exact this
theorem bits_ok (n : Nat) : ∀ (s : Tx) (ap : Bool) (l : List Bt), s.length ≤ n → bitsS ap s = some l → l.length ≤ s.length ∧ ∀ x ∈ l, x.text.length ≤ s.length := by
 induction n with
 | zero =>
  intro s ap l hs h
  have : s = [] := List.eq_nil_of_length_eq_zero (by omega)
  subst this
  rw [bits_nil] at h; injection h with h; subst h; simp
 | succ n ih =>
  intro s ap l hs h
  cases s with
  | nil => rw [bits_nil] at h; injection h with h; subst h; simp
  | cons c r =>
   simp only [List.length_cons] at hs ⊢
   have fin : ∀ (q : Tx) (x : Bt) (l' : List Bt), q.length ≤ r.length → x.text.length ≤ r.length + 1 → bitsS false q = some l' → x :: l' = l → l.length ≤ r.length + 1 ∧ ∀ x ∈ l, x.text.length ≤ r.length + 1 := by
    intro q x l' hq hx h1 h2
    obtain ⟨i1, i2⟩ := ih q false l' (by omega) h1
    subst h2
    refine ⟨by simp; omega, fun y hy => ?_⟩
    rcases List.mem_cons.1 hy with rfl | hy
    ·exact hx
    ·have := i2 y hy; omega
   cases e : blkB c with
   | true =>
    rw [bits_blank e] at h
    obtain ⟨i1, i2⟩ := ih r true l (by omega) h
    exact ⟨by omega, fun x hx => by have := i2 x hx; omega⟩
   | false =>
    cases e2 : runB c with
    | true =>
     rw [bits_run e2] at h
     obtain ⟨l', h1, h2⟩ := Option.map_eq_some_iff.1 h
     have h3 := off_lt (c :: r) (by rw [runS_cons e2]; simp)
     have h4 := (List.takeWhile_sublist (l := c :: r) runB).length_le
     simp only [List.length_cons] at h3 h4
     exact fin _ _ l' (by omega) h4 h1 h2
    | false =>
     by_cases e3 : c = 34
     ·subst e3
      cases e4 : quoS r with
      | none => rw [bits_quoN e4] at h; cases h
      | some q =>
       rw [bits_quoS e4] at h
       obtain ⟨l', h1, h2⟩ := Option.map_eq_some_iff.1 h
       have := quo_lt _ _ e4
       exact fin q _ l' (by omega) (by simp) h1 h2
     ·rw [bits_one e e2 e3] at h
      obtain ⟨l', h1, h2⟩ := Option.map_eq_some_iff.1 h
      exact fin r _ l' (by omega) (by simp) h1 h2
theorem bits_short {s : Tx} {l : List Bt} (h : bitsS false s = some l) (hs : s.length ≤ 4294967296) : l.length ≤ 4294967296 ∧ Short l := by
 obtain ⟨h1, h2⟩ := bits_ok s.length s false l (Nat.le_refl _) h
 exact ⟨by omega, fun x hx => by have := h2 x hx; omega⟩
theorem bitsOf_none (T : Tbl) (s : Tx) (hs : s.length ≤ 4294967296) (h : bitsS false s = none) : PC Tryz.prog T 146 [.d (.str s)] (.tup [.any, .d (.bool false)]) := by
 have := bitsOf_c T s hs
 rw [h] at this; exact this
theorem bitsOf_some (T : Tbl) (s : Tx) (hs : s.length ≤ 4294967296) (l : List Bt) (h : bitsS false s = some l) : PC Tryz.prog T 146 [.d (.str s)] (.tup [.d (.slc 4 (btsD l)), .d (.bool true)]) := by
 have := bitsOf_c T s hs
 rw [h] at this; exact this
def adD (a : Ad) : List D := [.str a.1, .str a.2]
def adsD (l : List Ad) : List (List D) := l.map adD
@[go_sem] theorem adsD_len (l : List Ad) : (adsD l).length = l.length := by simp [adsD]
def listV : Option (List Ad) → AV
 | some l => .tup [.d (.slc 2 (adsD l)), .d (.bool true)]
 | none => .tup [.d (.slc 2 []), .d (.bool false)]
theorem lessF : (((-1 : Int) < 0)) = True := by simp
attribute [local go_sem] icast adD lessF btD in
theorem listOf_c (T : Tbl) (hL : LibT T) (s : Tx) (hs : s.length ≤ 4294967296) : PC Tryz.prog T 82 [.d (.str s)] (listV (listS s)) := by
 refine ⟨Tryz.call82, PCall.enterS Tryz.func82 rfl Tryz.ntmps82 rfl fun hb => ?_⟩
 simp only [go_sem, Tryz.results82]
 refine Zp 1 ?_
 rcases hb0 : bitsS false s with _ | l
 ·
  refine Z1 6 (bitsOf_none T s hs hb0) ?_
  refine Zs (Zp 9 ?_)
  refine Zc (fun hc0 => ?_) fun hc0 => ?_
  ·
   refine Zp 3 ?_
   refine AWp.ret ?_
   simp only [go_sem]
   have hn : listS s = none := by have := list_bits s.length s false (Nat.le_refl _); rw [hb0] at this; exact this.symm
   rw [hn]; simp [listV, LeA, LeL, LeD]
  exact absurd hc0 (by first | (simp; done) | omega | (simp [*]; done))
 obtain ⟨hl, hsh⟩ := bits_short hb0 hs
 have hLS : listB l = listS s := by have := list_bits s.length s false (Nat.le_refl _); rw [hb0] at this; exact this
 refine Z1 6 (bitsOf_some T s hs l hb0) ?_
 refine Zs (Zp 9 ?_)
 refine Zc (fun hc0 => ?_) fun hc0 => ?_
 ·
  exact absurd hc0 (by first | (simp; done) | omega | (simp [*]; done))
 refine Zk ?_
 refine Zp 3 ?_
 refine Zy ?_
 refine AWp.ownNilS 6 2 rfl rfl (by decide) fun t0 ft0 => ?_
 try simp only [freshT] at ft0
 refine Zy ?_
 refine Zp 7 ?_
 refine AWp.block (Zy ?_)
 refine Zl 1 6 (fun n lc hc => ∃ (k v : Nat) (Y : List Ad), n = l.length - k ∧ EqS lc [(6, .own v 2 (adsD Y)), (7, .d (.int .i64 k))] ∧ EqS hc (⟨[], [v]⟩) ∧ (k ≤ l.length) ∧ (Y.length ≤ k) ∧ ((listB (l.drop k)).map (Y ++ ·) = listB l)) ?_ ?_
 · refine ⟨_, 0, t0, [], rfl, ?_, ZE, ?_, ?_, ?_⟩
   · (try simp only [go_sem]) <;> first | exact ⟨rfl⟩ | (constructor; simp [adsD]; done)
   all_goals (first | omega | (simp; done) | (cases listB l <;> rfl))
 rintro _ _ _ ⟨k, v, Y, rfl, ⟨rfl⟩, ⟨rfl⟩, h1, h2, h3⟩
 refine Zy ?_
 refine AWp.block ?_
 rcases hp : addrB (l.drop k) with _ | x
 ·
  refine Zx (Zy ?_)
  refine ZP (addressAt_none T hL l k hsh (by omega) hl hp) ?_
  refine Zy ?_
  intro b8
  first | intro fb8 | have fb8 := True.intro
  try simp only [freshL] at fb8
  refine Zm 27 ?_
  refine Zs (Zp 47 ?_)
  refine Zc (fun hc1 => ?_) fun hc1 => ?_
  ·
   refine Zp 3 ?_
   refine AWp.ret ?_
   simp only [go_sem]
   first | (exfalso; omega) | (rw [(by rw [← hLS, ← h3, listB_none hp]; rfl : listS s = none)]; simp [listV, LeA, LeL, LeD])
  exact absurd hc1 (by first | (simp; done) | omega | (simp [*]; done))
 obtain ⟨a, t⟩ := x
 obtain ⟨e, he1, he2, rfl⟩ := addr_t hp
 refine Zx (Zy ?_)
 refine ZP (addressAt_some T hL l k e hsh (by omega) hl a he2 hp) ?_
 refine Zy ?_
 intro b8
 first | intro fb8 | have fb8 := True.intro
 try simp only [freshL] at fb8
 refine Zm 27 ?_
 refine Zs (Zp 47 ?_)
 refine Zc (fun hc1 => ?_) fun hc1 => ?_
 ·
  refine Zp 3 ?_
  refine AWp.ret ?_
  simp only [go_sem]
  first | (exfalso; omega) | (rw [(by rw [← hLS, ← h3, listB_none hp]; rfl : listS s = none)]; simp [listV, LeA, LeL, LeD])
 refine Zk ?_
 refine Zx (Zy ?_)
 refine ZW fun t1 ft1 => ?_
 try simp only [freshT] at ft1
 refine Zy ?_
 refine Zm 11 ?_
 refine Zs (Zp 71 ?_)
 refine Zc (fun hc2 => ?_) fun hc2 => ?_
 ·
  have hst : listB (l.drop k) = some [a] := by
    have h0 : l.drop e = [] := List.drop_eq_nil_of_le (by omega)
    rw [h0] at hp
    exact listB_one hp
  refine Zp 3 ?_
  refine AWp.ret ?_
  simp only [go_sem]
  have hn : listS s = some (Y ++ [a]) := by rw [← hLS, ← h3, hst]; rfl
  rw [hn]; simp [listV, adsD, adD, LeA, LeL, LeD]
 have hel : e < l.length := by omega
 rw [List.drop_eq_getElem_cons hel] at hp
 have zf1 := fun d0_ => btsD_get l e d0_ hel
 refine Zk ?_
 refine Zs (Zp 519 ?_)
 refine Zc (fun hc3 => ?_) fun hc3 => ?_
 ·
  have hst : listB (l.drop k) = none := by rw [listB_more hp, if_neg (by simpa using hc3)]
  refine Zp 3 ?_
  refine AWp.ret ?_
  simp only [go_sem]
  have hn : listS s = none := by rw [← hLS, ← h3, hst]; rfl
  rw [hn]; simp [listV, LeA, LeL, LeD]
 have hst : listB (l.drop k) = (listB (l.drop (e + 1))).map (a :: ·) := by rw [listB_more hp, if_pos (by simpa using hc3)]
 refine Zk ?_
 refine Zr (blkQ_n (thenQ_n ?_))
 refine Ze 1 6 [b8] [] [] [t1] (.e ⟨_, ZM, (e + 1), t1, (Y ++ [a]), rfl, ?_, ZE, ?_, ?_, ?_⟩)
 · (try simp only [go_sem]) <;> first | exact ⟨rfl⟩ | (constructor; simp [adsD, adD]; done)
 · omega
 · simp; omega
 · rw [← h3, hst]; cases listB (l.drop (e + 1)) <;> simp
end
section
def adsV (r : List Ad × Int) : AV := .tup [.d (.slc 2 (adsD r.1)), .d (.int .i64 r.2)]
theorem list1_none (T : Tbl) (b2 b3 : Nat) (h : AH) : ADefer Tryz.prog T 218 [.ptr b2 1 0 0, .ptr b3 1 0 0] h none (fun h' => h' = h) := by
 refine ADefer.enter (t0 := 3) (t1 := 2) Tryz.call218 Tryz.func218 rfl Tryz.ntmps218 Tryz.results218 rfl rfl rfl rfl rfl rfl rfl rfl trivial ?_
 simp only [go_sem, Option.getD]
 refine AWp.rs fun K1 hK1 => ?_
 refine Zy ?_
 refine hK1 _ _ ?_
 refine AWp.cond _ rfl (fun hc => ?_) (fun hc => ?_)
 ·exact absurd hc (by simp)
 ·exact AWp.skip rfl
theorem list1_some (T : Tbl) (b2 b3 : Nat) (x : AV) (y e : Int) (F : List (Nat × Ob)) (L : List Nat) (h23 : (b2 == b3) = false) : ADefer Tryz.prog T 218 [.ptr b2 1 0 0, .ptr b3 1 0 0] ⟨(b2, ⟨1, 1, [[x]]⟩) :: (b3, ⟨1, 1, [[.d (.int .i64 y)]]⟩) :: F, L⟩ (some (.ifc 25 (.d (.int .i64 e)))) (fun h' => h' = ⟨(b2, ⟨1, 1, [[.nils]]⟩) :: (b3, ⟨1, 1, [[.d (.int .i64 e)]]⟩) :: F, L⟩) := by
 refine ADefer.enter (t0 := 3) (t1 := 2) Tryz.call218 Tryz.func218 rfl Tryz.ntmps218 Tryz.results218 rfl rfl rfl rfl rfl rfl rfl rfl trivial ?_
 simp only [go_sem, Option.getD]
 refine AWp.rs fun K1 hK1 => ?_
 refine Zy ?_
 refine hK1 _ _ ?_
 refine AWp.cond _ rfl (fun hc => ?_) (fun hc => ?_)
 ·refine AWp.dk true [0, 1, 2, 3] rfl (by kernel_rfl) fun K2 hK2 => ?_
  simp only [go_sem, assertP, h23]
  refine hK2 _ _ ?_
  rfl
 ·exact absurd hc (by simp)
theorem list_step {s : Tx} {j j1 j2 : Nat} {a : Ad} (hq : addrS true (s.drop j) = some (a, s.drop j1)) (hsk : s.drop j2 = skipS (s.drop j1)) : listS (s.drop j) = match s.drop j2 with | [] => some [a] | c :: q => if c = 44 then (listS q).map (a :: ·) else none := by
 rw [listS_some hq, ← hsk]
 rfl
theorem list_no {s : Tx} {j j1 j2 : Nat} {a : Ad} (hq : addrS true (s.drop j) = some (a, s.drop j1)) (hsk : s.drop j2 = skipS (s.drop j1)) (h1 : j2 < s.length) (h : (s.drop j2).head? ≠ some 44) : listS (s.drop j) = none := by
 rw [list_step hq hsk, drop_cons h1]
 rw [drop_cons h1] at h
 simp at h
 simp [h]
theorem list_more {s : Tx} {j j1 j2 : Nat} {a : Ad} (hq : addrS true (s.drop j) = some (a, s.drop j1)) (hsk : s.drop j2 = skipS (s.drop j1)) (hd : s.drop j2 = 44 :: s.drop (j2 + 1)) : listS (s.drop j) = (listS (s.drop (j2 + 1))).map (a :: ·) := by
 rw [list_step hq hsk, hd]; simp
theorem list_end {s : Tx} {j j1 j2 : Nat} {a : Ad} (hq : addrS true (s.drop j) = some (a, s.drop j1)) (hsk : s.drop j2 = skipS (s.drop j1)) (h1 : s.length ≤ j2) : listS (s.drop j) = some [a] := by
 rw [list_step hq hsk, drop_none h1]
theorem listR_no {s : Tx} (h : ¬ 2000 < s.length) (hn : listS s = none) : listR s = ([], 3) := by rw [listR, if_neg h, hn]
theorem listR_full {s : Tx} {l : List Ad} (h : ¬ 2000 < s.length) (hn : listS s = some l) (hl : 20 < l.length) : listR s = ([], 5) := by rw [listR, if_neg h, hn]; exact if_pos hl
theorem listR_ok {s : Tx} {l : List Ad} (h : ¬ 2000 < s.length) (hn : listS s = some l) (hl : ¬ 20 < l.length) : listR s = (l, 0) := by rw [listR, if_neg h, hn]; exact if_neg hl
attribute [local go_sem] qob icast in
theorem List_a (T : Tbl) (hL : LibT T) (s : Tx) : AC Tryz.prog T 133 [.d (.str s)] (⟨[], []⟩) (fun x _ => x = .ret (adsV (listR s))) := by
 refine ⟨Tryz.call133, ACalls.enterD Tryz.func133 rfl Tryz.ntmps133 rfl fun hb => ?_⟩
 simp only [go_sem, Tryz.results133]
 refine AWpD.seq fun K1 hK1 => ?_
 refine Zq fun K_ k_ => ?_
 refine Zy ?_
 intro b2
 first | intro fb2 | have fb2 := True.intro
 try simp only [freshL, qob] at fb2
 intro b3
 first | intro fb3 | have fb3 := True.intro
 try simp only [freshL, qob] at fb3
 refine k_ _ _ (thenQ_n ?_)
 refine hK1 _ _ ?_
 try clear hK1 K1
 refine AWpD.seq fun K2 hK2 => ?_
 refine Zp 39 ?_
 refine Zc (fun hc0 => ?_) fun hc0 => ?_
 ·
  refine Zp 6 ?_
  refine AWp.ret ?_
  simp only [thenQ]
  simp only [endD]
  apply endW_r [b2, b3] [] [] [] (by (try simp only [go_sem, fb3]); rfl)
  · rfl
  · rw [listR, if_pos (by omega)]; simp [adsV, adsD, LeA, LeL, LeD]
 have hs : s.length ≤ 4096 := by omega
 refine Zk ?_
 refine hK2 _ _ ?_
 try clear hK2 K2
 refine AWpD.defer rfl rfl rfl (by rw [mkS_len]; decide) rfl rfl ?_
 refine Zy ?_
 refine Zx (Zy ?_)
 intro b4
 first | intro fb4 | have fb4 := True.intro
 try simp only [freshL, qob] at fb4
 refine Zn 14 ?_
 refine AWp.ownNilH b2 0 0 2 (by (try simp only [go_sem, fb3, fb4]); rfl) rfl rfl (by decide) fun t0 ft0 => ?_
 try simp only [freshT] at ft0
 simp only [go_sem, fb3, fb4]
 refine Zs (AWp.block (Zl 7 0 (fun n lc hc => ∃ (j v : Nat) (Y : List Ad), n = s.length - j ∧ EqS lc [] ∧ EqS hc (⟨[qob b4 s j, (b3, ⟨1, 1, [[.d (.int .i64 0)]]⟩), (b2, ⟨1, 1, [[.own v 2 (adsD Y)]]⟩)], [v]⟩) ∧ (j ≤ s.length) ∧ (Y.length ≤ j) ∧ ((listS (s.drop j)).map (Y ++ ·) = listS s)) ?_ ?_))
 · refine ⟨_, 0, t0, [], rfl, ZE, ?_, ?_, ?_, ?_⟩
   · (try simp only [go_sem]) <;> first | exact ⟨rfl⟩ | (constructor; simp [qob, adsD]; done)
   all_goals (first | omega | (simp; done) | (cases listS s <;> rfl))
 rintro _ _ _ ⟨j, v, Y, rfl, ⟨rfl⟩, ⟨rfl⟩, h1, h2, h3⟩
 refine Zy ?_
 refine AWp.block (AWp.dsC [(2, .ptr b2 1 0 0), (3, .ptr b3 1 0 0)] (AgK.mk2 rfl rfl rfl rfl) rfl [1] 0 [2, 3] [4, 5] rfl (by kernel_rfl) rfl fun K_ hK_ => ?_)
 simp only [go_sem, fb3, fb4]
 try with_reducible refine Exists.intro _ (And.intro (by first | rfl | (simp only [go_sem, fb2, fb3, fb4, ft0]; first | rfl | exact ⟨by omega, rfl⟩)) ?_)
 refine ZA [b4] [] (address_c T hL b4 s j _ _ (by omega) hs) ?_
 rintro _ _ (⟨hI3q, rfl, yI3, rfl⟩ | ⟨I3, a4, hI3a, hI3b, hq, rfl, rfl⟩)
 ·
  intro _ hag
  refine endD_p [b4] [] [b2, b3] [] ?_
  simp only [go_sem, fb3, fb4]
  refine (list1_some T b2 b3 _ _ _ _ _ (by simp only [fb3])).mono ?_
  rintro _ rfl
  refine dEnd_mk [] [] [] [] (by (try simp only [go_sem, fb3, hag.one, hag.tl.one]); rfl) rfl ?_
  rw [listR_no (by omega) (by rw [← h3, listS_none hI3q]; rfl)]
  simp [adsV, adsD, LeA, LeL, LeD]
 simp only [go_sem, fb3, fb4]
 try with_reducible refine And.intro (by first | rfl | (simp only [go_sem, fb2, fb3, fb4, ft0]; first | done | rfl | exact ⟨by omega, rfl⟩)) ?_
 refine lvc_ok _ _ _ ?_
 simp only [go_sem, fb3, fb4]
 try with_reducible refine And.intro (by first | rfl | (simp only [go_sem, fb2, fb3, fb4, ft0]; first | done | rfl | exact ⟨by omega, rfl⟩)) ?_
 refine ZW fun t1 ft1 => ?_
 try simp only [freshT] at ft1
 simp only [go_sem, fb3, fb4]
 refine hK_ _ _ ?_
 refine Zm 7 ?_
 refine AWp.rsA [(2, .ptr b2 1 0 0), (3, .ptr b3 1 0 0)] (AgK.mk2 rfl rfl rfl rfl) rfl fun K_ hK_ => ?_
 refine Zy ?_
 refine ZA [b4] [] (skip_c T b4 s I3 _ _ (by omega) hs) ?_
 rintro _ _ ⟨I5, hI5a, hI5b, hI5c, rfl, rfl⟩
 refine Zy ?_
 have hsk := hI5c
 refine hK_ _ _ ?_
 refine Zs (Zd true [0, 1, 2, 3, 4, 5, 6, 7, 8, 9] ?_)
 simp only [go_sem, fb4]
 refine Zm 16391 ?_
 refine Zc (fun hc1 => ?_) fun hc1 => ?_
 ·
  have hS : listS s = some (Y ++ [a4]) := by rw [← h3, list_end hq hsk (by omega)]; rfl
  refine AWp.exit (thenQ_e (blkQ_d (by decide) (thenQ_e (blkQ_e (thenQ_n ?_)))))
  refine Zs (Zp 67 ?_)
  refine Zc (fun hc2 => ?_) fun hc2 => ?_
  ·
   refine Zp 3 ?_
   refine AWp.ret ?_
   simp only [thenQ]
   refine endD_r [b4] [] [b2, b3] [] ?_
   simp only [go_sem, fb3, fb4]
   refine (list1_none T b2 b3 _).mono ?_
   rintro _ rfl
   refine dEnd_mk [] [] [] [] (by (try simp only [go_sem, fb3]); rfl) rfl ?_
   rw [listR_full (by omega) hS (by simp [adsD] at hc2 ⊢; omega)]
   simp [adsV, adsD, LeA, LeL, LeD]
  refine Zk ?_
  refine Zp 3 ?_
  refine AWp.ret ?_
  refine endD_r [b4] [] [b2, b3] [] ?_
  simp only [go_sem, fb3, fb4]
  refine (list1_none T b2 b3 _).mono ?_
  rintro _ rfl
  refine dEnd_mk [] [] [] [] (by (try simp only [go_sem, fb3]); rfl) rfl ?_
  rw [listR_ok (by omega) hS (by simp [adsD] at hc2 ⊢; omega)]
  simp [adsV, adsD, adD, LeA, LeL, LeD]
 have hne : I5 < s.length := by omega
 refine Zk ?_
 refine AWp.rsA [(2, .ptr b2 1 0 0), (3, .ptr b3 1 0 0)] (AgK.mk2 rfl rfl rfl rfl) rfl fun K_ hK_ => ?_
 refine Zy ?_
 refine ZA [b4] [] (next_c T b4 s I5 _ _ (by omega) hs) ?_
 rintro _ _ ⟨rfl, rfl⟩
 refine Zy ?_
 refine ZA [] [] (must_c T _ _) ?_
 rintro _ _ (⟨hm6, rfl, rfl⟩ | ⟨hm6, rfl, rfl⟩)
 ·
  intro _ hag
  refine endD_p [b4] [] [b2, b3] [] ?_
  simp only [decide_eq_false_iff_not] at hm6
  simp only [go_sem, fb3, fb4]
  refine (list1_some T b2 b3 _ _ _ _ _ (by simp only [fb3])).mono ?_
  rintro _ rfl
  refine dEnd_mk [] [] [] [] (by (try simp only [go_sem, fb3, hag.one, hag.tl.one]); rfl) rfl ?_
  rw [listR_no (by omega) (by rw [← h3, list_no hq hsk hne (head_no (c := 44) rfl hm6)]; rfl)]
  simp [adsV, adsD, LeA, LeL, LeD]
 simp only [decide_eq_true_eq] at hm6
 obtain ⟨_, hd⟩ := head_is 44 rfl (by decide) hm6
 refine Zy ?_
 refine hK_ _ _ ?_
 refine Zm 7 ?_
 refine Zr (blkQ_n (thenQ_n ?_))
 refine Ze 7 0 [] [] [b4, b3, b2] [t1] (.e ⟨_, ZM, (I5 + 1), t1, (Y ++ [a4]), rfl, ZE, ?_, ?_, ?_, ?_⟩)
 · (try simp only [go_sem, fb3, fb4]) <;> first | exact ⟨rfl⟩ | (constructor; simp [adsD, adD]; done)
 · omega
 · simp; omega
 · rw [← h3, list_more hq hsk hd]; cases listS (s.drop (I5 + 1)) <;> simp
end
section
theorem listOf_none (T : Tbl) (hL : LibT T) (s : Tx) (hs : s.length ≤ 4294967296) (h : listS s = none) : PC Tryz.prog T 82 [.d (.str s)] (.tup [.d (.slc 2 []), .d (.bool false)]) := by
 have := listOf_c T hL s hs
 rw [h] at this; exact this
theorem listOf_some (T : Tbl) (hL : LibT T) (s : Tx) (hs : s.length ≤ 4294967296) (l : List Ad) (h : listS s = some l) : PC Tryz.prog T 82 [.d (.str s)] (.tup [.d (.slc 2 (adsD l)), .d (.bool true)]) := by
 have := listOf_c T hL s hs
 rw [h] at this; exact this
theorem List_c (T : Tbl) (hL : LibT T) (s : Tx) : PC Tryz.prog T 133 [.d (.str s)] (adsV (listR s)) := PC.of_ac (List_a T hL s) (by simp [adsV, LeA, LeL, LeD])
end
section
theorem headD_get {α : Type} {l : List α} {d : α} (h : 0 < l.length) : l.headD d = l[0] := by cases l with
 | nil => simp at h
 | cons x l => rfl
theorem cmdE_1 {ks : List (List UInt8)} {c : Cmd} (h : c.kind = 1) : cmdE ks c = 3 := by rw [cmdE_eq, if_pos h]
theorem cmdE_2t {ks : List (List UInt8)} {c : Cmd} (h : c.kind = 2) (h2 : ¬ tstE ks c.test = 0) : cmdE ks c = tstE ks c.test := by rw [cmdE_eq, if_neg (by omega), if_pos h, if_pos h2]
theorem cmdE_2a {ks : List (List UInt8)} {c : Cmd} (h : c.kind = 2) (h2 : tstE ks c.test = 0) (h3 : ¬ cmdEL ks c.thn = 0) : cmdE ks c = cmdEL ks c.thn := by rw [cmdE_eq, if_neg (by omega), if_pos h, if_neg (by omega), if_pos h3]
theorem cmdE_2b {ks : List (List UInt8)} {c : Cmd} (h : c.kind = 2) (h2 : tstE ks c.test = 0) (h3 : cmdEL ks c.thn = 0) : cmdE ks c = cmdEL ks c.els := by rw [cmdE_eq, if_neg (by omega), if_pos h, if_neg (by omega), if_neg (by omega)]
theorem cmdE_5n {ks : List (List UInt8)} {c : Cmd} (h : c.kind = 5) (h2 : ¬ needE ks fileT = 0) : cmdE ks c = needE ks fileT := by rw [cmdE_eq, if_neg (by omega), if_neg (by omega), if_pos h, if_pos h2]
theorem cmdE_5 {ks : List (List UInt8)} {c : Cmd} (h : c.kind = 5) (h2 : needE ks fileT = 0) (h0 : 0 < c.texts.length) : cmdE ks c = nameE (c.texts[0]) := by rw [cmdE_eq, if_neg (by omega), if_neg (by omega), if_pos h, if_neg (by omega), headD_get h0]
theorem cmdE_7 {ks : List (List UInt8)} {c : Cmd} (h : c.kind = 7) : cmdE ks c = needE ks rejT := by rw [cmdE_eq, if_neg (by omega), if_neg (by omega), if_neg (by omega), if_pos h]
theorem cmdE_8n {ks : List (List UInt8)} {c : Cmd} (h : c.kind = 8 ∨ c.kind = 9) (h2 : ¬ needE ks imapT = 0) : cmdE ks c = needE ks imapT := by rw [cmdE_eq, if_neg (by omega), if_neg (by omega), if_neg (by omega), if_neg (by omega), if_pos h, if_pos h2]
theorem cmdE_8 {ks : List (List UInt8)} {c : Cmd} (h : c.kind = 8 ∨ c.kind = 9) (h2 : needE ks imapT = 0) : cmdE ks c = flE c.texts := by rw [cmdE_eq, if_neg (by omega), if_neg (by omega), if_neg (by omega), if_neg (by omega), if_pos h, if_neg (by omega)]
theorem cmdE_6 {ks : List (List UInt8)} {c : Cmd} (h : c.kind = 6) (h0 : 0 < c.texts.length) : cmdE ks c = toE (c.texts[0]) := by rw [cmdE_eq, if_neg (by omega), if_neg (by omega), if_neg (by omega), if_neg (by omega), if_neg (by omega), if_pos h, headD_get h0]
theorem cmdE_o {ks : List (List UInt8)} {c : Cmd} (h1 : ¬ c.kind = 1) (h2 : ¬ c.kind = 2) (h5 : ¬ c.kind = 5) (h7 : ¬ c.kind = 7) (h8 : ¬ c.kind = 8) (h9 : ¬ c.kind = 9) (h6 : ¬ c.kind = 6) : cmdE ks c = 0 := by rw [cmdE_eq, if_neg h1, if_neg h2, if_neg h5, if_neg h7, if_neg (by omega), if_neg h6]
theorem toE_t {s : List UInt8} (h : ¬ (listR s).2 = 0 ∨ ¬ (((listR s).1.length : Nat) : Int) = 1) : toE s = 3 := by unfold toE; rw [if_neg (by omega)]
theorem toE_f {s : List UInt8} (h : (listR s).2 = 0 ∧ (((listR s).1.length : Nat) : Int) = 1) : toE s = 0 := by unfold toE; rw [if_pos (by omega)]
inductive Cmd.Rd : Cmd → Prop where
 | mk {c : Cmd} (h1 : c.kind = 5 ∨ c.kind = 6 → 0 < c.texts.length) (h2 : c.texts.length ≤ 1048576) (h3 : ∀ s ∈ c.texts, s.length ≤ 1048576) (h4 : ∀ x ∈ c.thn, Cmd.Rd x) (h5 : ∀ x ∈ c.els, Cmd.Rd x) : Cmd.Rd c
theorem Cmd.Rd.inv {c : Cmd} (h : c.Rd) : (c.kind = 5 ∨ c.kind = 6 → 0 < c.texts.length) ∧ c.texts.length ≤ 1048576 ∧ (∀ s ∈ c.texts, s.length ≤ 1048576) ∧ (∀ x ∈ c.thn, Cmd.Rd x) ∧ (∀ x ∈ c.els, Cmd.Rd x) := by
 cases h; exact ⟨by assumption, by assumption, by assumption, by assumption, by assumption⟩
attribute [local go_sem] cmdA tstA icast8 adsV List.cons_append List.nil_append strD in
theorem jcmd_s (T : Tbl) (hL : LibT T) (hF : T 2 = flagT.map D.str) (bj t : Nat) (ks : List (List UInt8)) (c : Cmd) (ok : c.Ok) (rd : c.Rd) (i1 : ∀ (F : List (Nat × Ob)) (L : List Nat), AC Tryz.prog T 58 [.ptr bj 1 0 0, .d (.slc 12 (thnD c))] ⟨(bj, ⟨1, 1, [[.mp t ks]]⟩) :: F, t :: L⟩ (fun x h => x = .ret (.d (.int .i64 (cmdEL ks c.thn))) ∧ h = ⟨(bj, ⟨1, 1, [[.mp t ks]]⟩) :: F, t :: L⟩)) (i2 : ∀ (F : List (Nat × Ob)) (L : List Nat), AC Tryz.prog T 58 [.ptr bj 1 0 0, .d (.slc 12 (elsD c))] ⟨(bj, ⟨1, 1, [[.mp t ks]]⟩) :: F, t :: L⟩ (fun x h => x = .ret (.d (.int .i64 (cmdEL ks c.els))) ∧ h = ⟨(bj, ⟨1, 1, [[.mp t ks]]⟩) :: F, t :: L⟩)) (F : List (Nat × Ob)) (L : List Nat) : AC Tryz.prog T 115 [.ptr bj 1 0 0, .agg (cmdA c)] (⟨(bj, ⟨1, 1, [[.mp t ks]]⟩) :: F, t :: L⟩) (fun x h => x = .ret (.d (.int .i64 (cmdE ks c))) ∧ h = ⟨(bj, ⟨1, 1, [[.mp t ks]]⟩) :: F, t :: L⟩) := by
 refine ⟨Tryz.call115, ACalls.enterS Tryz.func115 rfl Tryz.ntmps115 rfl fun hb => ?_⟩
 obtain ⟨s1, s2, s3, s4, s5, s6⟩ := ok.inv
 obtain ⟨r1, r2, r3, _, _⟩ := rd.inv
 simp only [go_sem, Tryz.results115]
 refine Zx (Zy ?_)
 intro b3
 first | intro fb3 | have fb3 := True.intro
 try simp only [freshL] at fb3
 refine Zs (Zp 37 ?_)
 refine AWp.block (Zp 15 ?_)
 refine Zc (fun hc0 => ?_) fun hc0 => ?_
 ·
  refine Zp 4 ?_
  refine AWp.ret ?_
  simp only [thenQ, blkQ]
  apply endW_r [b3] [] [bj] [t] (by (try simp only [go_sem]); rfl)
  · rw [cmdE_1 hc0]
    exact ⟨rfl, by first | rfl | (simp only [go_sem, fb3]; done) | (simp only [go_sem, fb3]; rfl)⟩
  · simp [LeA, LeD]
 refine Zp 23 ?_
 refine Zc (fun hc1 => ?_) fun hc1 => ?_
 ·
  refine Zs (Zx ?_)
  simp only [go_sem, fb3]
  refine ZA [bj] [t] (jtest_c T bj t ks c.test s2 _ _) ?_
  rintro _ _ ⟨rfl, rfl⟩
  refine Zy ?_
  refine Zm 7 ?_
  refine Zp 23 ?_
  refine Zc (fun hc2 => ?_) fun hc2 => ?_
  ·
   refine Zp 4 ?_
   refine AWp.ret ?_
   simp only [thenQ, blkQ]
   apply endW_r [b3] [] [bj] [t] (by (try simp only [go_sem]); rfl)
   · rw [cmdE_2t hc1 hc2]
     exact ⟨rfl, by first | rfl | (simp only [go_sem, fb3]; done) | (simp only [go_sem, fb3]; rfl)⟩
   · simp [LeA, LeD]
  have hc2 : tstE ks c.test = 0 := by omega
  refine Zk ?_
  refine Zs (Zx ?_)
  simp only [go_sem, fb3]
  refine ZA [bj] [t] (i1 _ _) ?_
  rintro _ _ ⟨rfl, rfl⟩
  refine Zy ?_
  refine Zm 11 ?_
  refine Zp 23 ?_
  refine Zc (fun hc3 => ?_) fun hc3 => ?_
  ·
   refine Zp 4 ?_
   refine AWp.ret ?_
   simp only [thenQ, blkQ]
   apply endW_r [b3] [] [bj] [t] (by (try simp only [go_sem]); rfl)
   · rw [cmdE_2a hc1 hc2 hc3]
     exact ⟨rfl, by first | rfl | (simp only [go_sem, fb3]; done) | (simp only [go_sem, fb3]; rfl)⟩
   · simp [LeA, LeD]
  have hc3 : cmdEL ks c.thn = 0 := by omega
  refine Zk ?_
  refine Zx ?_
  simp only [go_sem, fb3]
  refine ZA [bj] [t] (i2 _ _) ?_
  rintro _ _ ⟨rfl, rfl⟩
  refine Zy ?_
  refine Zm 4 ?_
  refine AWp.ret ?_
  simp only [thenQ, blkQ]
  apply endW_r [b3] [] [bj] [t] (by (try simp only [go_sem]); rfl)
  · rw [cmdE_2b hc1 hc2 hc3]
    exact ⟨rfl, by first | rfl | (simp only [go_sem, fb3]; done) | (simp only [go_sem, fb3]; rfl)⟩
  · simp [LeA, LeD]
 refine Zp 23 ?_
 refine Zc (fun hc4 => ?_) fun hc4 => ?_
 ·
  refine Zs (Zx (Zy ?_))
  refine ZA [bj] [t] (need_c T bj t ks fileT _ _) ?_
  rintro _ _ ⟨rfl, rfl⟩
  refine Zy ?_
  refine Zm 6 ?_
  refine Zp 11 ?_
  refine Zc (fun hc5 => ?_) fun hc5 => ?_
  ·
   refine Zp 2 ?_
   refine AWp.ret ?_
   simp only [thenQ, blkQ]
   apply endW_r [b3] [] [bj] [t] (by (try simp only [go_sem]); rfl)
   · rw [cmdE_5n hc4 hc5]
     exact ⟨rfl, by first | rfl | (simp only [go_sem, fb3]; done) | (simp only [go_sem, fb3]; rfl)⟩
   · simp [LeA, LeD]
  have hc5 : needE ks fileT = 0 := by omega
  have h0 : 0 < c.texts.length := r1 (.inl hc4)
  have hz0 := r3 _ (List.getElem_mem h0)
  have zf1 := fun d0_ => map_getD strD c.texts 0 d0_ h0
  refine Zk ?_
  refine Zx ?_
  simp only [go_sem, fb3, zf1]
  (repeat (with_reducible refine And.intro ZS ?_))
  refine DW.pcr rfl rfl rfl rfl (Name_c T _ (by omega)) rfl rfl ?_
  refine Zy ?_
  refine Zm 2 ?_
  refine AWp.ret ?_
  simp only [thenQ, blkQ]
  apply endW_r [b3] [] [bj] [t] (by (try simp only [go_sem]); rfl)
  · rw [cmdE_5 hc4 hc5 h0]
    exact ⟨rfl, by first | rfl | (simp only [go_sem, fb3]; done) | (simp only [go_sem, fb3, zf1]; rfl)⟩
  · simp [LeA, LeD]
 refine Zp 23 ?_
 refine Zc (fun hc6 => ?_) fun hc6 => ?_
 ·
  refine Zx (Zy ?_)
  refine ZA [bj] [t] (need_c T bj t ks rejT _ _) ?_
  rintro _ _ ⟨rfl, rfl⟩
  refine Zy ?_
  refine Zm 4 ?_
  refine AWp.ret ?_
  simp only [thenQ, blkQ]
  apply endW_r [b3] [] [bj] [t] (by (try simp only [go_sem]); rfl)
  · rw [cmdE_7 hc6]
    exact ⟨rfl, by first | rfl | (simp only [go_sem, fb3]; done) | (simp only [go_sem, fb3]; rfl)⟩
  · simp [LeA, LeD]
 refine Zs (Zp 23 ?_)
 refine Zy ?_
 apply Za (z := (_ || _)) 7 53
 ·
  refine AWp.cond _ rfl (fun hc7 => ?_) fun hc7 => ?_
  rotate_left
  ·
   refine Zr (thenQ_n ?_)
   refine Zf 7 8 (.e ⟨EqS.bo (or_f hc7 rfl), ⟨rfl⟩⟩)
  refine AWp.skip (thenQ_n ?_)
  refine Zf 7 8 (.e ⟨EqS.bo (or_t hc7), ⟨rfl⟩⟩)
 refine Zy ?_
 refine Zc (fun hc8 => ?_) fun hc8 => ?_
 ·
  have hk8 : c.kind = 8 ∨ c.kind = 9 := by first | exact .inl hc7 | exact .inr hc8 | omega
  refine Zs (Zx (Zy ?_))
  refine ZA [bj] [t] (need_c T bj t ks imapT _ _) ?_
  rintro _ _ ⟨rfl, rfl⟩
  refine Zy ?_
  refine Zm 6 ?_
  refine Zp 11 ?_
  refine Zc (fun hc9 => ?_) fun hc9 => ?_
  ·
   refine Zp 2 ?_
   refine AWp.ret ?_
   simp only [thenQ, blkQ]
   apply endW_r [b3] [] [bj] [t] (by (try simp only [go_sem]); rfl)
   · rw [cmdE_8n hk8 hc9]
     exact ⟨rfl, by first | rfl | (simp only [go_sem, fb3]; done) | (simp only [go_sem, fb3]; rfl)⟩
   · simp [LeA, LeD]
  have hc9 : needE ks imapT = 0 := by omega
  refine Zk ?_
  refine Zx ?_
  simp only [go_sem, fb3]
  refine ZP (jFlags_c T hF _ (by omega)) ?_
  refine Zy ?_
  refine Zm 8 ?_
  refine Zp 1 ?_
  refine AWp.ret ?_
  simp only [thenQ, blkQ]
  apply endW_r [b3] [] [bj] [t] (by (try simp only [go_sem]); rfl)
  · rw [cmdE_8 hk8 hc9]
    exact ⟨rfl, by first | rfl | (simp only [go_sem, fb3]; done) | (simp only [go_sem, fb3]; rfl)⟩
  · simp [LeA, LeD]
 refine Zp 18 ?_
 refine Zc (fun hc10 => ?_) fun hc10 => ?_
 ·
  have h0 : 0 < c.texts.length := r1 (.inr hc10)
  have hz0 := r3 _ (List.getElem_mem h0)
  have zf2 := fun d0_ => map_getD strD c.texts 0 d0_ h0
  refine Zx ?_
  simp only [go_sem, fb3, zf2]
  (repeat (with_reducible refine And.intro ZS ?_))
  refine DW.pcr rfl rfl rfl rfl (List_c T hL _) rfl rfl ?_
  refine Zy ?_
  refine Zm 6 ?_
  refine Zp 256 ?_
  refine Zc (fun hc11 => ?_) fun hc11 => ?_
  ·
   refine Zp 1 ?_
   refine AWp.ret ?_
   simp only [thenQ, blkQ]
   apply endW_r [b3] [] [bj] [t] (by (try simp only [go_sem]); rfl)
   · rw [cmdE_6 hc10 h0, toE_t hc11]
     exact ⟨rfl, by first | rfl | (simp only [go_sem, fb3]; done) | (simp only [go_sem, fb3, zf2]; rfl)⟩
   · simp [LeA, LeD]
  refine AWp.skip (blkQ_n (thenQ_n ?_))
  refine Zp 1 ?_
  refine AWp.ret ?_
  apply endW_r [b3] [] [bj] [t] (by (try simp only [go_sem]); rfl)
  · rw [cmdE_6 hc10 h0, toE_f hc11]
    exact ⟨rfl, by first | rfl | (simp only [go_sem, fb3]; done) | (simp only [go_sem, fb3, zf2]; rfl)⟩
  · simp [LeA, LeD]
 refine AWp.skip (blkQ_n (thenQ_n ?_))
 refine Zp 2 ?_
 refine AWp.ret ?_
 apply endW_r [b3] [] [bj] [t] (by (try simp only [go_sem]); rfl)
 · rw [cmdE_o hc0 hc1 hc4 hc6 hc8.1 hc8.2 hc10]
   exact ⟨rfl, by first | rfl | (simp only [go_sem, fb3]; done) | (simp only [go_sem, fb3]; rfl)⟩
 · simp [LeA, LeD]
attribute [local go_sem] cmdA tstA tstD cmdD icast8 List.cons_append List.nil_append in
theorem jall_s (T : Tbl) (bj t : Nat) (ks : List (List UInt8)) (l : List Cmd) (hll : l.length * 208 ≤ 140737488355328) (ih : ∀ y ∈ l, ∀ (F : List (Nat × Ob)) (L : List Nat), AC Tryz.prog T 115 [.ptr bj 1 0 0, .agg (cmdA y)] ⟨(bj, ⟨1, 1, [[.mp t ks]]⟩) :: F, t :: L⟩ (fun x h => x = .ret (.d (.int .i64 (cmdE ks y))) ∧ h = ⟨(bj, ⟨1, 1, [[.mp t ks]]⟩) :: F, t :: L⟩)) (F : List (Nat × Ob)) (L : List Nat) : AC Tryz.prog T 58 [.ptr bj 1 0 0, .d (.slc 12 (l.map cmdD))] (⟨(bj, ⟨1, 1, [[.mp t ks]]⟩) :: F, t :: L⟩) (fun x h => x = .ret (.d (.int .i64 (cmdEL ks l))) ∧ h = ⟨(bj, ⟨1, 1, [[.mp t ks]]⟩) :: F, t :: L⟩) := by
 refine ⟨Tryz.call58, ACalls.enterS Tryz.func58 rfl Tryz.ntmps58 rfl fun hb => ?_⟩
 simp only [go_sem, Tryz.results58]
 refine Zp 3 ?_
 refine Zs (Zp 29 ?_)
 refine AWp.block (Zy ?_)
 refine Zl 7 8 (fun n lc hc => ∃ (k : Nat), n = l.length - k ∧ EqS lc [(10, .d (.int .i64 (k : Nat)))] ∧ EqS hc (⟨(bj, ⟨1, 1, [[.mp t ks]]⟩) :: F, t :: L⟩) ∧ (k ≤ l.length) ∧ (cmdEL ks l = cmdEL ks (l.drop k))) ?_ ?_
 · refine ⟨_, 0, rfl, ZE, ZE, ?_, ?_⟩
   all_goals (first | omega | rfl)
 rintro _ _ _ ⟨k, rfl, ⟨rfl⟩, ⟨rfl⟩, m1, m2⟩
 refine Zy ?_
 refine Zp 31 ?_
 refine Zs (Zc (fun hc0 => ?_) fun hc0 => ?_)
 ·
  have hlt : k < l.length := by omega
  have hki : (k : Int) < (l.length : Int) := by omega
  have zf1 := fun d0_ => map_getD cmdD l k d0_ hlt
  refine Zk ?_
  refine Zs (AWp.block (Zx ?_))
  simp only [go_sem, zf1, hki]
  intro b6
  first | intro fb6 | have fb6 := True.intro
  try simp only [freshL] at fb6
  refine Zx ?_
  simp only [go_sem, fb6]
  refine ZA [bj] [t] (ih _ (List.getElem_mem hlt) _ _) ?_
  rintro _ _ ⟨rfl, rfl⟩
  refine Zy ?_
  refine Zm 61 ?_
  refine Zp 95 ?_
  refine Zc (fun hc1 => ?_) fun hc1 => ?_
  ·
   refine Zp 2 ?_
   refine AWp.ret ?_
   simp only [thenQ, blkQ]
   apply endW_r [b6] [] [bj] [t] (by (try simp only [go_sem]); rfl)
   · rw [m2, cmdEL_t hlt hc1]
     exact ⟨rfl, by first | rfl | (simp only [go_sem, fb6]; done) | (simp only [go_sem, zf1, hki, fb6]; rfl)⟩
   · simp [LeA, LeD]
  have hz : cmdE ks (l[k]) = 0 := by omega
  refine AWp.skip (blkQ_n (thenQ_n ?_))
  refine Zr (thenQ_n ?_)
  refine Ze 13 16 [b6] [] [bj] [] (.e ⟨_, ZM, k + 1, rfl, ZE, ZE, ?_, ?_⟩)
  · omega
  · rw [m2, cmdEL_f hlt hz]
 refine AWp.exit (thenQ_e (thenQ_e (blkQ_e (thenQ_n ?_))))
 refine Zm 0 ?_
 refine Zp 1 ?_
 refine AWp.ret ?_
 apply endW_r [] [] [bj] [t] (by (try simp only [go_sem]); rfl)
 · rw [m2, cmdEL_e (by omega)]
   exact ⟨rfl, by first | rfl | (simp only [go_sem, ]; done) | (simp only [go_sem, ]; rfl)⟩
 · simp [LeA, LeD]
theorem jcmd_c (T : Tbl) (hL : LibT T) (hF : T 2 = flagT.map D.str)  (bj t : Nat) (ks : List (List UInt8)) (c : Cmd) (ok : c.Ok) (rd : c.Rd) (F : List (Nat × Ob)) (L : List Nat) : AC Tryz.prog T 115 [.ptr bj 1 0 0, .agg (cmdA c)] ⟨(bj, ⟨1, 1, [[.mp t ks]]⟩) :: F, t :: L⟩ (fun x h => x = .ret (.d (.int .i64 (cmdE ks c))) ∧ h = ⟨(bj, ⟨1, 1, [[.mp t ks]]⟩) :: F, t :: L⟩) := by
 induction c using Cmd.ind generalizing F L with
 | h c i1 i2 =>
  obtain ⟨s1, s2, s3, s4, s5, s6⟩ := ok.inv
  obtain ⟨r1, r2, r3, r4, r5⟩ := rd.inv
  refine jcmd_s T hL hF bj t ks c ok rd (fun F L => ?_) (fun F L => ?_) F L
  ·rw [thnD_eq]; exact jall_s T bj t ks _ s3 (fun x hx F L => i1 x hx (s5 x hx) (r4 x hx) F L) F L
  ·rw [elsD_eq]; exact jall_s T bj t ks _ s4 (fun x hx F L => i2 x hx (s6 x hx) (r5 x hx) F L) F L
theorem jall_c (T : Tbl) (hL : LibT T) (hF : T 2 = flagT.map D.str)  (bj t : Nat) (ks : List (List UInt8)) (l : List Cmd) (hll : l.length * 208 ≤ 140737488355328) (ok : ∀ x ∈ l, x.Ok) (rd : ∀ x ∈ l, x.Rd) (F : List (Nat × Ob)) (L : List Nat) : AC Tryz.prog T 58 [.ptr bj 1 0 0, .d (.slc 12 (l.map cmdD))] ⟨(bj, ⟨1, 1, [[.mp t ks]]⟩) :: F, t :: L⟩ (fun x h => x = .ret (.d (.int .i64 (cmdEL ks l))) ∧ h = ⟨(bj, ⟨1, 1, [[.mp t ks]]⟩) :: F, t :: L⟩) :=
 jall_s T bj t ks l hll (fun x hx F L => jcmd_c T hL hF bj t ks x (ok x hx) (rd x hx) F L) F L
end
section
theorem toE_n {s : List UInt8} (h : listS s = none) : toE s = 3 := by
 refine toE_t (.inl ?_)
 unfold listR; rw [h]; split <;> (intro h9; cases h9)
theorem toE_s {s : List UInt8} {l : List Ad} (h : listS s = some l) (h2 : ¬ (l.length : Int) = 1 ∨ 2000 < (s.length : Int)) : toE s = 3 := by
 refine toE_t ?_
 unfold listR; rw [h]; split
 ·exact .inl (by intro h9; cases h9)
 ·dsimp only; split
  ·exact .inl (by intro h9; cases h9)
  ·exact .inr (by dsimp only; omega)
theorem toE_z {s : List UInt8} {l : List Ad} (h : listS s = some l) (h2 : (l.length : Int) = 1 ∧ ¬ 2000 < (s.length : Int)) : toE s = 0 := by
 refine toE_f ?_
 unfold listR; rw [h, if_neg (by omega)]; dsimp only; rw [if_neg (by omega)]; exact ⟨rfl, h2.1⟩
attribute [local go_sem] tstA tstD cmdD icast8 List.cons_append List.nil_append adsV adsD strD in
theorem lallow_s (T : Tbl) (hL : LibT T) (ks : List (List UInt8)) (hkn : ks.length ≤ 1048576) (l : List Cmd) (hll : l.length * 208 ≤ 140737488355328) (ok : ∀ x ∈ l, x.Ok) (rd : ∀ x ∈ l, x.Rd) (i1 : ∀ x ∈ l, PC Tryz.prog T 64 [.d (.slc 1 (ks.map strD)), .d (.slc 12 (thnD x))] (.d (.int .i64 (cmdEL ks x.thn)))) (i2 : ∀ x ∈ l, PC Tryz.prog T 64 [.d (.slc 1 (ks.map strD)), .d (.slc 12 (elsD x))] (.d (.int .i64 (cmdEL ks x.els)))) : PC Tryz.prog T 64 [.d (.slc 1 (ks.map strD)), .d (.slc 12 (l.map cmdD))] (.d (.int .i64 (cmdEL ks l))) := by
 refine ⟨Tryz.call64, PCall.enterS Tryz.func64 rfl Tryz.ntmps64 rfl fun hb => ?_⟩
 simp only [go_sem, Tryz.results64]
 refine Zp 3 ?_
 refine Zs (Zp 7 ?_)
 refine AWp.block (Zy ?_)
 refine Zl 3 4 (fun n lc hc => ∃ (k : Nat), n = l.length - k ∧ EqS lc [(5, .d (.int .i64 (k : Nat)))] ∧ EqS hc (⟨[], []⟩) ∧ (k ≤ l.length) ∧ (cmdEL ks l = cmdEL ks (l.drop k))) ?_ ?_
 · refine ⟨_, 0, rfl, ZE, ZE, ?_, ?_⟩
   all_goals (first | omega | rfl)
 rintro _ _ _ ⟨k, rfl, ⟨rfl⟩, ⟨rfl⟩, m1, m2⟩
 refine Zy ?_
 refine Zs (Zp 71 ?_)
 refine Zc (fun hc0 => ?_) fun hc0 => ?_
 ·
  have hlt : k < l.length := by omega
  have hki : (k : Int) < (l.length : Int) := by omega
  have okk := ok _ (List.getElem_mem hlt)
  obtain ⟨s1, s2, s3, s4, s5, s6⟩ := okk.inv
  obtain ⟨r1, r2, r3, _, _⟩ := (rd _ (List.getElem_mem hlt)).inv
  have zf1 := fun d0_ => map_getD cmdD l k d0_ hlt
  refine Zk ?_
  refine Zs (AWp.block (Zx ?_))
  simp only [go_sem, zf1, hki]
  intro b6
  first | intro fb6 | have fb6 := True.intro
  try simp only [freshL] at fb6
  refine Zm 15 ?_
  refine Zp 31 ?_
  refine Zs (Zp 95 ?_)
  refine AWp.block (Zp 127 ?_)
  refine Zc (fun hc1 => ?_) fun hc1 => ?_
  ·
   refine Zr (blkQ_n (thenQ_n ?_))
   refine Zp 279 ?_
   refine Zc (fun hc13 => ?_) fun hc13 => ?_
   ·
    have hz : ¬ cmdE ks (l[k]) = 0 := by rw [cmdE_1 hc1]; first | exact hc13 | decide | omega
    refine Zp 4 ?_
    refine AWp.ret ?_
    simp only [go_sem]
    rw [m2, cmdEL_t hlt hz, cmdE_1 hc1]; try simp [LeA, LeD]
   first | omega | simp at hc13
  refine Zp 191 ?_
  refine Zc (fun hc2 => ?_) fun hc2 => ?_
  ·
   refine Zx (Zy ?_)
   refine ZP (tallow_c T ks hkn _ s2) ?_
   refine Zy ?_
   refine Zm 31 ?_
   refine Zs (Zp 95 ?_)
   refine Zc (fun hc3 => ?_) fun hc3 => ?_
   ·
    refine Zq fun K_ k_ => ?_
    refine Zy ?_
    refine ZP (i1 _ (List.getElem_mem hlt)) ?_
    refine Zy ?_
    refine k_ _ _ (thenQ_n ?_)
    refine Zm 31 ?_
    refine Zp 95 ?_
    refine Zc (fun hc4 => ?_) fun hc4 => ?_
    ·
     refine Zq fun K_ k_ => ?_
     refine Zy ?_
     refine ZP (i2 _ (List.getElem_mem hlt)) ?_
     refine Zy ?_
     refine k_ _ _ (blkQ_n (thenQ_n ?_))
     refine Zm 23 ?_
     refine Zp 47 ?_
     refine Zc (fun hc13 => ?_) fun hc13 => ?_
     ·
      have hz : ¬ cmdE ks (l[k]) = 0 := by rw [cmdE_2b hc2 hc3 hc4]; first | exact hc13 | decide | omega
      refine Zp 4 ?_
      refine AWp.ret ?_
      simp only [go_sem]
      rw [m2, cmdEL_t hlt hz, cmdE_2b hc2 hc3 hc4]; try simp [LeA, LeD]
     have hz : cmdE ks (l[k]) = 0 := by rw [cmdE_2b hc2 hc3 hc4]; first | done | exact hc13 | omega
     refine AWp.skip (blkQ_n (thenQ_n ?_))
     refine Zr (thenQ_n ?_)
     refine Ze 3 4 [b6] [] [] [] (.e ⟨_, ZM, k + 1, rfl, ZE, ZE, ?_, ?_⟩)
     · omega
     · rw [m2, cmdEL_f hlt hz]
    refine AWp.skip (blkQ_n (thenQ_n ?_))
    refine Zp 151 ?_
    refine Zc (fun hc13 => ?_) fun hc13 => ?_
    ·
     have hz : ¬ cmdE ks (l[k]) = 0 := by rw [cmdE_2a hc2 hc3 hc4]; first | exact hc13 | decide | omega
     refine Zp 4 ?_
     refine AWp.ret ?_
     simp only [go_sem]
     rw [m2, cmdEL_t hlt hz, cmdE_2a hc2 hc3 hc4]; try simp [LeA, LeD]
    have hz : cmdE ks (l[k]) = 0 := by rw [cmdE_2a hc2 hc3 hc4]; first | done | exact hc13 | omega
    refine AWp.skip (blkQ_n (thenQ_n ?_))
    refine Zr (thenQ_n ?_)
    refine Ze 3 4 [b6] [] [] [] (.e ⟨_, ZM, k + 1, rfl, ZE, ZE, ?_, ?_⟩)
    · omega
    · rw [m2, cmdEL_f hlt hz]
   refine Zk ?_
   refine Zp 159 ?_
   refine Zc (fun hc4 => ?_) fun hc4 => ?_
   ·
    exact absurd hc4 hc3
   refine AWp.skip (blkQ_n (thenQ_n ?_))
   refine Zp 151 ?_
   refine Zc (fun hc13 => ?_) fun hc13 => ?_
   ·
    have hz : ¬ cmdE ks (l[k]) = 0 := by rw [cmdE_2t hc2 hc3]; first | exact hc13 | decide | omega
    refine Zp 4 ?_
    refine AWp.ret ?_
    simp only [go_sem]
    rw [m2, cmdEL_t hlt hz, cmdE_2t hc2 hc3]; try simp [LeA, LeD]
   have hz : cmdE ks (l[k]) = 0 := by rw [cmdE_2t hc2 hc3]; first | done | exact hc13 | omega
   refine AWp.skip (blkQ_n (thenQ_n ?_))
   refine Zr (thenQ_n ?_)
   refine Ze 3 4 [b6] [] [] [] (.e ⟨_, ZM, k + 1, rfl, ZE, ZE, ?_, ?_⟩)
   · omega
   · rw [m2, cmdEL_f hlt hz]
  refine Zp 191 ?_
  refine Zc (fun hc5 => ?_) fun hc5 => ?_
  ·
   have h0 : 0 < (l[k]).texts.length := r1 (.inl hc5)
   have hz0 := r3 _ (List.getElem_mem h0)
   have zf2 := fun d0_ => map_getD strD (l[k]).texts 0 d0_ h0
   refine Z1 31 (required_c T ks fileT hkn) ?_
   refine Zp 95 ?_
   refine Zc (fun hc6 => ?_) fun hc6 => ?_
   ·
    refine Zq fun K_ k_ => ?_
    simp only [go_sem, zf2]
    (repeat (with_reducible refine And.intro ZS ?_))
    refine DW.pcr rfl rfl rfl rfl (BoxName_c T _ (by omega)) rfl rfl ?_
    refine Zy ?_
    refine k_ _ _ (blkQ_n (thenQ_n ?_))
    refine Zm 23 ?_
    refine Zp 47 ?_
    refine Zc (fun hc13 => ?_) fun hc13 => ?_
    ·
     have hz : ¬ cmdE ks (l[k]) = 0 := by rw [cmdE_5 hc5 hc6 h0]; first | exact hc13 | decide | omega
     refine Zp 4 ?_
     refine AWp.ret ?_
     simp only [go_sem]
     rw [m2, cmdEL_t hlt hz, cmdE_5 hc5 hc6 h0]; try simp [LeA, LeD]
    have hz : cmdE ks (l[k]) = 0 := by rw [cmdE_5 hc5 hc6 h0]; first | done | exact hc13 | omega
    refine AWp.skip (blkQ_n (thenQ_n ?_))
    refine Zr (thenQ_n ?_)
    refine Ze 3 4 [b6] [] [] [] (.e ⟨_, ZM, k + 1, rfl, ZE, ZE, ?_, ?_⟩)
    · omega
    · rw [m2, cmdEL_f hlt hz]
   refine AWp.skip (blkQ_n (thenQ_n ?_))
   refine Zp 151 ?_
   refine Zc (fun hc13 => ?_) fun hc13 => ?_
   ·
    have hz : ¬ cmdE ks (l[k]) = 0 := by rw [cmdE_5n hc5 hc6]; first | exact hc13 | decide | omega
    refine Zp 4 ?_
    refine AWp.ret ?_
    simp only [go_sem]
    rw [m2, cmdEL_t hlt hz, cmdE_5n hc5 hc6]; try simp [LeA, LeD]
   have hz : cmdE ks (l[k]) = 0 := by rw [cmdE_5n hc5 hc6]; first | done | exact hc13 | omega
   refine AWp.skip (blkQ_n (thenQ_n ?_))
   refine Zr (thenQ_n ?_)
   refine Ze 3 4 [b6] [] [] [] (.e ⟨_, ZM, k + 1, rfl, ZE, ZE, ?_, ?_⟩)
   · omega
   · rw [m2, cmdEL_f hlt hz]
  refine Zp 191 ?_
  refine Zc (fun hc7 => ?_) fun hc7 => ?_
  ·
   refine Zq fun K_ k_ => ?_
   refine Zy ?_
   refine ZP (required_c T ks rejT hkn) ?_
   refine Zy ?_
   refine k_ _ _ (blkQ_n (thenQ_n ?_))
   refine Zm 23 ?_
   refine Zp 47 ?_
   refine Zc (fun hc13 => ?_) fun hc13 => ?_
   ·
    have hz : ¬ cmdE ks (l[k]) = 0 := by rw [cmdE_7 hc7]; first | exact hc13 | decide | omega
    refine Zp 4 ?_
    refine AWp.ret ?_
    simp only [go_sem]
    rw [m2, cmdEL_t hlt hz, cmdE_7 hc7]; try simp [LeA, LeD]
   have hz : cmdE ks (l[k]) = 0 := by rw [cmdE_7 hc7]; first | done | exact hc13 | omega
   refine AWp.skip (blkQ_n (thenQ_n ?_))
   refine Zr (thenQ_n ?_)
   refine Ze 3 4 [b6] [] [] [] (.e ⟨_, ZM, k + 1, rfl, ZE, ZE, ?_, ?_⟩)
   · omega
   · rw [m2, cmdEL_f hlt hz]
  refine Zs (Zp 191 ?_)
  refine Zy ?_
  apply Za (z := (_ || _)) 63 57
  ·
   refine AWp.cond _ rfl (fun hc8 => ?_) fun hc8 => ?_
   rotate_left
   ·
    refine Zr (thenQ_n ?_)
    refine Zf 63 64 (.e ⟨EqS.bo (or_f hc8 rfl), ⟨rfl⟩⟩)
   refine AWp.skip (thenQ_n ?_)
   refine Zf 63 64 (.e ⟨EqS.bo (or_t hc8), ⟨rfl⟩⟩)
  refine Zy ?_
  refine Zc (fun hc9 => ?_) fun hc9 => ?_
  ·
   refine Z1 31 (required_c T ks imapT hkn) ?_
   refine Zp 95 ?_
   refine Zc (fun hc10 => ?_) fun hc10 => ?_
   ·
    refine Zq fun K_ k_ => ?_
    refine Zy ?_
    refine ZP (jFlagsOf_c T _ (by omega)) ?_
    refine Zy ?_
    refine k_ _ _ (blkQ_n (thenQ_n ?_))
    refine Zm 23 ?_
    refine Zp 47 ?_
    refine Zc (fun hc13 => ?_) fun hc13 => ?_
    ·
     have hz : ¬ cmdE ks (l[k]) = 0 := by rw [cmdE_8 hc9 hc10]; first | exact hc13 | decide | omega
     refine Zp 4 ?_
     refine AWp.ret ?_
     simp only [go_sem]
     rw [m2, cmdEL_t hlt hz, cmdE_8 hc9 hc10]; try simp [LeA, LeD]
    have hz : cmdE ks (l[k]) = 0 := by rw [cmdE_8 hc9 hc10]; first | done | exact hc13 | omega
    refine AWp.skip (blkQ_n (thenQ_n ?_))
    refine Zr (thenQ_n ?_)
    refine Ze 3 4 [b6] [] [] [] (.e ⟨_, ZM, k + 1, rfl, ZE, ZE, ?_, ?_⟩)
    · omega
    · rw [m2, cmdEL_f hlt hz]
   refine AWp.skip (blkQ_n (thenQ_n ?_))
   refine Zp 151 ?_
   refine Zc (fun hc13 => ?_) fun hc13 => ?_
   ·
    have hz : ¬ cmdE ks (l[k]) = 0 := by rw [cmdE_8n hc9 hc10]; first | exact hc13 | decide | omega
    refine Zp 4 ?_
    refine AWp.ret ?_
    simp only [go_sem]
    rw [m2, cmdEL_t hlt hz, cmdE_8n hc9 hc10]; try simp [LeA, LeD]
   have hz : cmdE ks (l[k]) = 0 := by rw [cmdE_8n hc9 hc10]; first | done | exact hc13 | omega
   refine AWp.skip (blkQ_n (thenQ_n ?_))
   refine Zr (thenQ_n ?_)
   refine Ze 3 4 [b6] [] [] [] (.e ⟨_, ZM, k + 1, rfl, ZE, ZE, ?_, ?_⟩)
   · omega
   · rw [m2, cmdEL_f hlt hz]
  refine Zp 159 ?_
  refine Zc (fun hc11 => ?_) fun hc11 => ?_
  ·
   have h0 : 0 < (l[k]).texts.length := r1 (.inr hc11)
   have hz0 := r3 _ (List.getElem_mem h0)
   have zf3 := fun d0_ => map_getD strD (l[k]).texts 0 d0_ h0
   rcases hls : listS ((l[k]).texts[0]) with _ | ads
   ·
    refine Zx ?_
    simp only [go_sem, zf3]
    (repeat (with_reducible refine And.intro ZS ?_))
    refine DW.pcr rfl rfl rfl rfl (listOf_none T hL _ (by omega) hls) rfl rfl ?_
    refine Zy ?_
    refine Zm 127 ?_
    refine Zp 2097175 ?_
    refine Zc (fun hc12 => ?_) fun hc12 => ?_
    ·
     refine Zr (blkQ_n (thenQ_n ?_))
     refine Zp 79 ?_
     refine Zc (fun hc13 => ?_) fun hc13 => ?_
     ·
      have hz : ¬ cmdE ks (l[k]) = 0 := by rw [cmdE_6 hc11 h0, toE_n hls]; first | exact hc13 | decide | omega
      refine Zp 4 ?_
      refine AWp.ret ?_
      simp only [go_sem]
      rw [m2, cmdEL_t hlt hz, cmdE_6 hc11 h0, toE_n hls]; try simp [LeA, LeD]
     first | omega | simp at hc13
    exact absurd hc12 (by first | (simp; done) | omega | (simp [*]; done))
   refine Zx ?_
   simp only [go_sem, zf3]
   (repeat (with_reducible refine And.intro ZS ?_))
   refine DW.pcr rfl rfl rfl rfl (listOf_some T hL _ (by omega) ads hls) rfl rfl ?_
   refine Zy ?_
   refine Zm 127 ?_
   refine Zp 2097175 ?_
   refine Zc (fun hc12 => ?_) fun hc12 => ?_
   ·
    refine Zr (blkQ_n (thenQ_n ?_))
    refine Zp 79 ?_
    refine Zc (fun hc13 => ?_) fun hc13 => ?_
    ·
     have hz : ¬ cmdE ks (l[k]) = 0 := by rw [cmdE_6 hc11 h0, toE_s hls (hc12.imp (fun h9 => h9.resolve_left (by simp)) id)]; first | exact hc13 | decide | omega
     refine Zp 4 ?_
     refine AWp.ret ?_
     simp only [go_sem]
     rw [m2, cmdEL_t hlt hz, cmdE_6 hc11 h0, toE_s hls (hc12.imp (fun h9 => h9.resolve_left (by simp)) id)]; try simp [LeA, LeD]
    first | omega | simp at hc13
   refine AWp.skip (blkQ_n (thenQ_n ?_))
   refine Zp 79 ?_
   refine Zc (fun hc13 => ?_) fun hc13 => ?_
   ·
    first | omega | simp at hc13
   have hz : cmdE ks (l[k]) = 0 := by rw [cmdE_6 hc11 h0, toE_z hls ⟨hc12.1.2, by omega⟩]; first | done | exact hc13 | omega
   refine AWp.skip (blkQ_n (thenQ_n ?_))
   refine Zr (thenQ_n ?_)
   refine Ze 3 4 [b6] [] [] [] (.e ⟨_, ZM, k + 1, rfl, ZE, ZE, ?_, ?_⟩)
   · omega
   · rw [m2, cmdEL_f hlt hz]
  refine AWp.skip (blkQ_n (thenQ_n ?_))
  refine Zp 151 ?_
  refine Zc (fun hc13 => ?_) fun hc13 => ?_
  ·
   first | omega | simp at hc13
  have hz : cmdE ks (l[k]) = 0 := by rw [cmdE_o hc1 hc2 hc5 hc7 hc9.1 hc9.2 hc11]; first | done | exact hc13 | omega
  refine AWp.skip (blkQ_n (thenQ_n ?_))
  refine Zr (thenQ_n ?_)
  refine Ze 3 4 [b6] [] [] [] (.e ⟨_, ZM, k + 1, rfl, ZE, ZE, ?_, ?_⟩)
  · omega
  · rw [m2, cmdEL_f hlt hz]
 refine AWp.exit (thenQ_e (thenQ_e (blkQ_e (thenQ_n ?_))))
 refine Zm 0 ?_
 refine Zp 1 ?_
 refine AWp.ret ?_
 simp only [go_sem]
 rw [m2, cmdEL_e (by omega)]; try simp [LeA, LeD]
theorem lallow_c (T : Tbl) (hL : LibT T) (ks : List (List UInt8)) (hkn : ks.length ≤ 1048576) (l : List Cmd) (hll : l.length * 208 ≤ 140737488355328) (ok : ∀ x ∈ l, x.Ok) (rd : ∀ x ∈ l, x.Rd) : PC Tryz.prog T 64 [.d (.slc 1 (ks.map strD)), .d (.slc 12 (l.map cmdD))] (.d (.int .i64 (cmdEL ks l))) := by
 have H : ∀ c : Cmd, c.Ok → c.Rd → PC Tryz.prog T 64 [.d (.slc 1 (ks.map strD)), .d (.slc 12 (thnD c))] (.d (.int .i64 (cmdEL ks c.thn))) ∧ PC Tryz.prog T 64 [.d (.slc 1 (ks.map strD)), .d (.slc 12 (elsD c))] (.d (.int .i64 (cmdEL ks c.els))) := fun c => by
  induction c using Cmd.ind with
  | h c i1 i2 =>
   intro ok rd
   obtain ⟨s1, s2, s3, s4, s5, s6⟩ := ok.inv
   obtain ⟨_, _, _, r4, r5⟩ := rd.inv
   rw [thnD_eq, elsD_eq]
   exact ⟨lallow_s T hL ks hkn _ s3 s5 r4 (fun x hx => (i1 x hx (s5 x hx) (r4 x hx)).1) (fun x hx => (i1 x hx (s5 x hx) (r4 x hx)).2), lallow_s T hL ks hkn _ s4 s6 r5 (fun x hx => (i2 x hx (s6 x hx) (r5 x hx)).1) (fun x hx => (i2 x hx (s6 x hx) (r5 x hx)).2)⟩
 exact lallow_s T hL ks hkn l hll ok rd (fun x hx => (H x (ok x hx) (rd x hx)).1) (fun x hx => (H x (ok x hx) (rd x hx)).2)
end
section
def extT : List (List UInt8) := [[102, 105, 108, 101, 105, 110, 116, 111], [114, 101, 106, 101, 99, 116], [101, 110, 118, 101, 108, 111, 112, 101], [105, 109, 97, 112, 52, 102, 108, 97, 103, 115]]
@[go_sem] theorem bd_judge : bdI Tryz.prog 121 = some ([.any], [(0, 1)]) := by kernel_rfl
def reqE : List (List UInt8) → List Cmd → Int
 | _, [] => 0
 | ks, c :: l => if c.kind = 1 then (if ∀ s ∈ c.texts, s ∈ extT then reqE (ks ++ c.texts) l else 7) else cmdEL ks (c :: l)
def ruleE (l : List Cmd) : Int := if ¬ chkE l = 0 then chkE l else reqE [] l
theorem reqE_e {ks : List (List UInt8)} {l : List Cmd} {k : Nat} (h : l.length ≤ k) : reqE ks (l.drop k) = cmdEL ks (l.drop k) := by rw [List.drop_eq_nil_of_le h]; rfl
theorem reqE_o {ks : List (List UInt8)} {l : List Cmd} {k : Nat} (h : k < l.length) (hc : ¬ (l[k]).kind = 1) : reqE ks (l.drop k) = cmdEL ks (l.drop k) := by rw [List.drop_eq_getElem_cons h, reqE, if_neg hc]
theorem reqE_n {ks : List (List UInt8)} {l : List Cmd} {k q : Nat} (h : k < l.length) (hc : (l[k]).kind = 1) (hq : q < (l[k]).texts.length) (hn : ¬ (l[k]).texts[q] ∈ extT) : reqE ks (l.drop k) = 7 := by
 rw [List.drop_eq_getElem_cons h, reqE, if_pos hc, if_neg fun h9 => hn (h9 _ (List.getElem_mem hq))]
theorem reqE_s {ks : List (List UInt8)} {l : List Cmd} {k : Nat} (h : k < l.length) (hc : (l[k]).kind = 1) (ha : ∀ s ∈ (l[k]).texts, s ∈ extT) : reqE ks (l.drop k) = reqE (ks ++ (l[k]).texts) (l.drop (k + 1)) := by
 rw [List.drop_eq_getElem_cons h, reqE, if_pos hc, if_pos ha]
theorem drop_get0 {α β : Type} (f : α → β) (l : List α) (k : Nat) (d : β) (h : k < l.length) : ((l.drop k).map f).getD 0 d = f (l[k]) := by
 rw [List.drop_eq_getElem_cons h]; rfl
def AllX (l : List (List UInt8)) : Prop := ∀ s ∈ l, s ∈ extT
theorem AllX.s {l : List (List UInt8)} {q : Nat} (hq : q < l.length) (h : AllX (l.take q)) (hn : l[q] ∈ extT) : AllX (l.take (q + 1)) := fun s hs => by
 rw [List.take_succ_eq_append_getElem hq, List.mem_append, List.mem_singleton] at hs
 rcases hs with h9 | rfl
 ·exact h s h9
 ·exact hn
theorem AllX.e {l : List (List UInt8)} {q : Nat} (hq : l.length ≤ q) (h : AllX (l.take q)) : ∀ s ∈ l, s ∈ extT := by rwa [List.take_of_length_le hq] at h
theorem Same.nil : Same [] [] := fun _ => Iff.rfl
theorem Same.st {kz ks l : List (List UInt8)} {q : Nat} (hq : q < l.length) (h : Same kz (ks ++ l.take q)) : Same (addK l[q] kz) (ks ++ l.take (q + 1)) := by
 have := h.add l[q]
 rwa [List.append_assoc, ← List.take_succ_eq_append_getElem hq] at this
theorem Same.en {kz ks l : List (List UInt8)} {q : Nat} (hq : l.length ≤ q) (h : Same kz (ks ++ l.take q)) : Same kz (ks ++ l) := by rwa [List.take_of_length_le hq] at h
attribute [local go_sem] cmdD icast8 decide_true strD decide_false in
theorem jCheck_c (T : Tbl) (hL : LibT T) (hF : T 2 = flagT.map D.str) (hE : T 0 = extT.map D.str) (tb : Tabs T) (l : List Cmd) (hll : l.length * 208 ≤ 140737488355328) (ok : ∀ x ∈ l, x.Ok) (hl : (lsT l).length ≤ 4398046511104) (rd : chkE l = 0 → ∀ x ∈ l, x.Rd) : PC Tryz.prog T 28 [.d (.slc 12 (l.map cmdD))] (.d (.int .i64 (ruleE l))) := by
 refine ⟨Tryz.call28, PCall.enterS Tryz.func28 rfl Tryz.ntmps28 rfl fun hb => ?_⟩
 simp only [go_sem, Tryz.results28]
 refine Zp 1 ?_
 refine Zs (Z1 3 (Check_c T l hll ok hl tb) ?_)
 refine Zp 11 ?_
 refine Zc (fun hc0 => ?_) fun hc0 => ?_
 ·
  refine Zp 2 ?_
  refine AWp.ret ?_
  simp only [go_sem]
  rw [ruleE, if_pos hc0]; try simp [LeA, LeD]
 have hz : chkE l = 0 := by omega
 have rd := rd hz
 refine Zk ?_
 refine Zx (Zy ?_)
 refine DW.mkMap rfl rfl fun tk ftk => ?_
 refine Zy ?_
 intro b4
 first | intro fb4 | have fb4 := True.intro
 try simp only [freshL] at fb4
 refine Zm 5 ?_
 refine Zs (AWp.block (Zy ?_))
 refine Zl 2 1 (fun n lc hc => ∃ (k t : Nat) (ks kz : List (List UInt8)), n = l.length - k ∧ EqS lc [(0, .d (.slc 12 ((l.drop k).map cmdD)))] ∧ EqS hc (⟨[(b4, ⟨1, 1, [[.mp t kz]]⟩)], [t]⟩) ∧ (k ≤ l.length) ∧ (Same kz ks) ∧ (reqE [] l = reqE ks (l.drop k))) ?_ ?_
 · refine ⟨_, 0, tk, [], [], rfl, ZE, ZE, ?_, ?_, ?_⟩
   all_goals (first | omega | rfl | exact Same.nil)
 rintro _ _ _ ⟨k, t, ks, kz, rfl, ⟨rfl⟩, ⟨rfl⟩, m1, m2, m3⟩
 refine Zy ?_
 refine Zs ?_
 rcases Nat.lt_or_ge k l.length with hkl | hkl
 ·
  have hkL : (0 < l.length - k) = True := by simp; omega
  have hdg := fun d => drop_get0 cmdD l k d hkl
  have htk : List.take (l.length - k) (List.drop k (List.map cmdD l)) = List.drop k (List.map cmdD l) := List.take_of_length_le (by simp)
  have hr2 := (rd _ (List.getElem_mem hkl)).inv.2.1
  refine Zp 2051 ?_
  refine Zc (fun hc1 => ?_) fun hc1 => ?_
  ·
   have hk1 : (l[k]).kind = 1 := by omega
   refine Zk ?_
   refine AWp.block (Zs (Zp 451 ?_))
   refine AWp.block (Zy ?_)
   refine Zl 15 16 (fun n lc hc => ∃ (q u : Nat) (kz2 : List (List UInt8)), n = (l[k]).texts.length - q ∧ EqS lc [(30, .d (.int .i64 (q : Nat)))] ∧ EqS hc (⟨[(b4, ⟨1, 1, [[.mp u kz2]]⟩)], [u]⟩) ∧ (q ≤ (l[k]).texts.length) ∧ (Same kz2 (ks ++ (l[k]).texts.take q)) ∧ (AllX ((l[k]).texts.take q))) ?_ ?_
   · refine ⟨_, 0, t, kz, rfl, ZE, ZE, ?_, ?_, ?_⟩
     all_goals (first | omega | (simpa using m2) | exact fun s h9 => by simp at h9)
   rintro _ _ _ ⟨q, u, kz2, rfl, ⟨rfl⟩, ⟨rfl⟩, q1, q2, q3⟩
   refine Zy ?_
   refine Zp 63 ?_
   refine Zs (Zc (fun hc2 => ?_) fun hc2 => ?_)
   ·
    have hqt : q < (l[k]).texts.length := by omega
    have hqi : (q : Int) < ((l[k]).texts.length : Int) := by omega
    have zf1 := fun d0_ => map_getD strD (l[k]).texts q d0_ hqt
    refine Zk ?_
    refine Zs (AWp.block (Zp 63 ?_))
    refine Zs (AWp.rsG 0 fun K_ hK_ => ?_)
    simp only [List.take_zero, List.drop_zero]
    refine Zy ?_
    refine LV.dw1 ?_
    refine DW.sliceG (n := 4) (e := 9) rfl rfl rfl (by first | rfl | kernel_rfl) (by first | rfl | kernel_rfl) (by rw [hE]; rfl) (by decide) (by decide) ?_
    refine DW.nil ?_
    rw [hE, mapS1]
    refine LV.lvc ?_
    refine Zy ?_
    refine ZP (ContT_c T extT _ (by decide)) ?_
    refine Zy ?_
    refine hK_ _ _ ?_
    refine Zc (fun hc3 => ?_) fun hc3 => ?_
    ·
     have hx : ¬ (l[k]).texts[q] ∈ extT := by simpa using hc3
     refine Zp 2 ?_
     refine AWp.ret ?_
     simp only [go_sem]
     rw [ruleE, if_neg (fun h9 => h9 hz), m3, reqE_n hkl hk1 hqt hx]; try simp [LeA, LeD]
    have hx : (l[k]).texts[q] ∈ extT := by simpa using hc3
    refine Zk ?_
    refine Zm 63 ?_
    refine Zq fun K_ k_ => ?_
    refine Zy ?_
    refine DW.mapUpd (b := b4) (i := 0) (j := 0) (t := u) (ks := kz2) (s := (l[k]).texts[q]) (ob := ⟨1, 1, [[.mp u kz2]]⟩) (r := [.mp u kz2]) rfl rfl Tryz.underlying119 Tryz.underlying9 rfl rfl rfl (by simp) (by simp [getO]) rfl rfl fun t2 ft2 => ?_
    refine Zy ?_
    refine k_ _ _ (blkQ_n (thenQ_n ?_))
    refine Zm 59 ?_
    refine Zr (thenQ_n ?_)
    refine Ze 15 16 [] [] [b4] [t2] (.e ⟨_, ZM, q + 1, t2, (addK (l[k]).texts[q] kz2), rfl, ZE, ZE, ?_, ?_, ?_⟩)
    · omega
    · exact q2.st hqt
    · exact q3.s hqt hx
   have ha := q3.e (by omega)
   refine AWp.exit (thenQ_e (thenQ_e (blkQ_e (thenQ_n ?_))))
   refine Zm 3 ?_
   refine Zr (blkQ_n (thenQ_n ?_))
   refine Ze 2 1 [] [] [b4] [u] (.e ⟨_, ZM, k + 1, u, (ks ++ (l[k]).texts), kz2, rfl, ?_, ZE, ?_, ?_, ?_⟩)
   · (try simp only [go_sem]) <;> first | exact ⟨rfl⟩ | (constructor; first | (simp; done) | (simp [htk]; done))
   · omega
   · exact q2.en (by omega)
   · rw [m3, reqE_s hkl hk1 ha]
  refine AWp.exit (thenQ_e (thenQ_e (blkQ_e (thenQ_n ?_))))
  refine Zx (Zy ?_)
  refine ZA [b4] [t] (jall_c T hL hF b4 t kz (l.drop k) (by simp only [List.length_drop]; omega) (fun x hx => ok x (List.mem_of_mem_drop hx)) (fun x hx => rd x (List.mem_of_mem_drop hx)) _ _) ?_
  rintro _ _ ⟨rfl, rfl⟩
  refine Zy ?_
  refine Zm 2 ?_
  refine AWp.ret ?_
  simp only [go_sem]
  rw [ruleE, if_neg (fun h9 => h9 hz), m3, reqE_o hkl (by simp at hc1; omega), m2.cmdL]; try simp [LeA, LeD]
 have hkL : (0 < l.length - k) = False := by simp; omega
 refine Zp 2051 ?_
 refine Zc (fun hc1 => ?_) fun hc1 => ?_
 ·
  exact absurd hc1 (by first | (simp; done) | omega | (simp [*]; done))
 refine AWp.exit (thenQ_e (thenQ_e (blkQ_e (thenQ_n ?_))))
 refine Zx (Zy ?_)
 refine ZA [b4] [t] (jall_c T hL hF b4 t kz (l.drop k) (by simp only [List.length_drop]; omega) (fun x hx => ok x (List.mem_of_mem_drop hx)) (fun x hx => rd x (List.mem_of_mem_drop hx)) _ _) ?_
 rintro _ _ ⟨rfl, rfl⟩
 refine Zy ?_
 refine Zm 2 ?_
 refine AWp.ret ?_
 simp only [go_sem]
 rw [ruleE, if_neg (fun h9 => h9 hz), m3, reqE_e hkl, m2.cmdL]; try simp [LeA, LeD]
end
section
def numX (l : List Cmd) : Nat := (l.map fun c => c.texts.length).sum
theorem numX_a (a c : List Cmd) : numX (a ++ c) = numX a + numX c := by simp [numX]
theorem numX_s {l : List Cmd} {k : Nat} (h : k < l.length) : numX (l.take (k + 1)) = numX (l.take k) + (l[k]).texts.length := by rw [List.take_succ_eq_append_getElem h, numX_a]; simp [numX]
theorem numX_le (l : List Cmd) (k : Nat) : numX (l.take k) ≤ numX l := by
 have := numX_a (l.take k) (l.drop k)
 rw [List.take_append_drop] at this
 omega
theorem ext_in {s : List UInt8} (h : s = fileT ∨ s = rejT ∨ s = envT ∨ s = imapT) : s ∈ extT := by
 rcases h with rfl | rfl | rfl | rfl <;> decide
theorem ext_no {s : List UInt8} (h1 : ¬ s = fileT) (h2 : ¬ s = rejT) (h3 : ¬ s = envT) (h4 : ¬ s = imapT) : ¬ s ∈ extT := by
 intro h
 simp only [extT, List.mem_cons, List.not_mem_nil, or_false] at h
 rcases h with h | h | h | h
 ·exact h1 h
 ·exact h2 h
 ·exact h3 h
 ·exact h4 h
attribute [local go_sem] cmdD icast8 strD in
theorem scriptAllowed_c (T : Tbl) (hL : LibT T) (l : List Cmd) (hll : l.length * 208 ≤ 140737488355328) (ok : ∀ x ∈ l, x.Ok) (hl : (lsT l).length ≤ 4398046511104) (rd : chkE l = 0 → ∀ x ∈ l, x.Rd) (hsum : numX l ≤ 1048576) : PC Tryz.prog T 30 [.d (.slc 12 (l.map cmdD))] (.d (.int .i64 (ruleE l))) := by
 refine ⟨Tryz.call30, PCall.enterS Tryz.func30 rfl Tryz.ntmps30 rfl fun hb => ?_⟩
 simp only [go_sem, Tryz.results30]
 refine Zp 1 ?_
 refine Z1 3 (cmdsFault_c T l hll ok hl) ?_
 refine Zs (Zp 11 ?_)
 refine Zc (fun hc0 => ?_) fun hc0 => ?_
 ·
  refine Zp 2 ?_
  refine AWp.ret ?_
  simp only [go_sem]
  rw [ruleE, if_pos hc0]; try simp [LeA, LeD]
 have hz : chkE l = 0 := by omega
 have rd := rd hz
 refine Zk ?_
 refine Zp 5 ?_
 refine Zp 7 ?_
 refine Zs (AWp.block (Zy ?_))
 refine AWp.ownNilS 4 1 rfl rfl (by decide) fun w0 fw0 => ?_
 try simp only [freshT] at fw0
 refine Zy ?_
 refine Zl 1 6 (fun n lc hc => ∃ (k w : Nat) (ks : List (List UInt8)), n = l.length - k ∧ EqS lc [(4, .own w 1 (ks.map strD)), (5, .d (.int .i64 (k : Nat)))] ∧ EqS hc (⟨[], [w]⟩) ∧ (k ≤ l.length) ∧ (ks.length = numX (l.take k)) ∧ (reqE [] l = reqE ks (l.drop k))) ?_ ?_
 · refine ⟨_, 0, w0, [], rfl, ZE, ZE, ?_, ?_, ?_⟩
   all_goals (first | omega | rfl | (simp [numX]; done))
 rintro _ _ _ ⟨k, w, ks, rfl, ⟨rfl⟩, ⟨rfl⟩, m1, m2, m3⟩
 refine Zy ?_
 refine Zs ?_
 rcases Nat.lt_or_ge k l.length with hkl | hkl
 ·
  have htl : List.take l.length (List.map cmdD l) = List.map cmdD l := List.take_of_length_le (by simp)
  have hdm : List.drop k (List.map cmdD l) = List.map cmdD (l.drop k) := List.map_drop.symm
  have hkn : ks.length ≤ 1048576 := by have := numX_le l k; omega
  have hki : ((k : Int) < (l.length : Int)) = True := by simp; omega
  have hr2 := (rd _ (List.getElem_mem hkl)).inv.2.1
  have hsl := numX_s hkl
  have hsl2 := numX_le l (k + 1)
  have zf1 := fun d0_ => map_getD cmdD l k d0_ hkl
  refine Zp 16391 ?_
  refine Zc (fun hc1 => ?_) fun hc1 => ?_
  ·
   have hk1 : (l[k]).kind = 1 := by first | omega | (simp at hc1; omega)
   refine Zk ?_
   refine AWp.block (Zs (Zp 15 ?_))
   refine AWp.block (Zy ?_)
   refine Zl 5 10 (fun n lc hc => ∃ (q u : Nat), n = (l[k]).texts.length - q ∧ EqS lc [(4, .own u 1 ((ks ++ (l[k]).texts.take q).map strD)), (6, .d (.int .i64 (q : Nat)))] ∧ EqS hc (⟨[], [u]⟩) ∧ (q ≤ (l[k]).texts.length) ∧ (AllX ((l[k]).texts.take q))) ?_ ?_
   · refine ⟨_, 0, w, rfl, ZE, ZE, ?_, ?_⟩
     all_goals (first | omega | exact fun s h9 => by simp at h9)
   rintro _ _ _ ⟨q, u, rfl, ⟨rfl⟩, ⟨rfl⟩, q1, q3⟩
   refine Zy ?_
   refine Zs (Zp 2063 ?_)
   refine Zc (fun hc2 => ?_) fun hc2 => ?_
   ·
    have hqt : q < (l[k]).texts.length := by omega
    have hqi : (q : Int) < ((l[k]).texts.length : Int) := by omega
    have zf2 := fun d0_ => map_getD strD (l[k]).texts q d0_ hqt
    refine Zk ?_
    refine Zs (AWp.block (Zp 31 ?_))
    refine Zs (Zp 262175 ?_)
    refine Zc (fun hc3 => ?_) fun hc3 => ?_
    ·
     have hx : ¬ (l[k]).texts[q] ∈ extT := by obtain ⟨⟨⟨h1, h2⟩, h3⟩, h4⟩ := hc3; exact ext_no h1 h2 h3 h4
     refine Zp 2 ?_
     refine AWp.ret ?_
     simp only [go_sem]
     rw [ruleE, if_neg (fun h9 => h9 hz), m3, reqE_n hkl hk1 hqt hx]; try simp [LeA, LeD]
    have hx : (l[k]).texts[q] ∈ extT := ext_in (by grind)
    refine Zk ?_
    refine Zq fun K_ k_ => ?_
    refine Zy ?_
    refine ZW fun t1 ft1 => ?_
    try simp only [freshT] at ft1
    refine Zy ?_
    refine k_ _ _ (blkQ_n (thenQ_n ?_))
    refine Zm 15 ?_
    refine Zr (thenQ_n ?_)
    refine Ze 5 10 [] [] [] [t1] (.e ⟨_, ZM, q + 1, t1, rfl, ?_, ZE, ?_, ?_⟩)
    · (try simp only [go_sem]) <;> first | exact ⟨rfl⟩ | (constructor; simp only [List.take_succ_eq_append_getElem hqt, List.map_append, List.map_cons, List.map_nil, strD, List.append_assoc])
    · omega
    · exact q3.s hqt hx
   have ha := q3.e (by omega)
   have htq : (l[k]).texts.take q = (l[k]).texts := List.take_of_length_le (by omega)
   rw [htq]
   refine AWp.exit (thenQ_e (thenQ_e (blkQ_e (thenQ_n ?_))))
   refine Zr (blkQ_n (thenQ_n ?_))
   refine Ze 1 6 [] [] [] [u] (.e ⟨_, ZM, k + 1, u, (ks ++ (l[k]).texts), rfl, ZE, ZE, ?_, ?_, ?_⟩)
   · omega
   · rw [List.length_append, m2, numX_s hkl]
   · rw [m3, reqE_s hkl hk1 ha]
  refine AWp.exit (thenQ_e (thenQ_e (blkQ_e (thenQ_n ?_))))
  refine Z1 2 (lallow_c T hL ks hkn (l.drop k) (by simp only [List.length_drop]; omega) (fun x hx => ok x (List.mem_of_mem_drop hx)) (fun x hx => rd x (List.mem_of_mem_drop hx))) ?_
  refine AWp.ret ?_
  simp only [go_sem]
  rw [ruleE, if_neg (fun h9 => h9 hz), m3, reqE_o hkl (by first | omega | (simp at hc1; omega))]; try simp [LeA, LeD]
 have htl : List.take l.length (List.map cmdD l) = List.map cmdD l := List.take_of_length_le (by simp)
 have hdm : List.drop k (List.map cmdD l) = List.map cmdD (l.drop k) := List.map_drop.symm
 have hkn : ks.length ≤ 1048576 := by have := numX_le l k; omega
 have hki : ((k : Int) < (l.length : Int)) = False := by simp; omega
 refine Zp 16391 ?_
 refine Zc (fun hc1 => ?_) fun hc1 => ?_
 ·
  exact absurd hc1 (by first | (simp; done) | omega | (simp [*]; done))
 refine AWp.exit (thenQ_e (thenQ_e (blkQ_e (thenQ_n ?_))))
 refine Z1 2 (lallow_c T hL ks hkn (l.drop k) (by simp only [List.length_drop]; omega) (fun x hx => ok x (List.mem_of_mem_drop hx)) (fun x hx => rd x (List.mem_of_mem_drop hx))) ?_
 refine AWp.ret ?_
 simp only [go_sem]
 rw [ruleE, if_neg (fun h9 => h9 hz), m3, reqE_e hkl]; try simp [LeA, LeD]
end
section
theorem tok_suf {s : Tx} {i : Nat} (hi : i < s.length) (h : (tokS (s.drop i)).2.1 = 0) : ∃ q, q ≤ s.length ∧ tokS (s.drop i) = ((tokS (s.drop i)).1, 0, s.drop q) := by
 have hs : (tokS (s.drop i)).2.2 <:+ s := by
  have hd : ∀ k, s.drop k <:+ s := fun k => List.drop_suffix _ _
  have hw : ∀ k (so : UInt8 → Bool), (s.drop k).dropWhile so <:+ s := fun k so => (List.dropWhile_suffix _).trans (hd k)
  rw [tokS]
  split
  ·exact hw _ _
  split
  ·split
   ·rw [List.drop_drop]; exact hw _ _
   ·exact List.nil_suffix
  split
  ·split
   ·obtain ⟨j, _, e⟩ := nS_at (s := s) (i := i) (by omega)
    rw [e]; exact hd _
   ·exact List.nil_suffix
  split
  ·rw [List.drop_drop]
   split
   ·exact List.nil_suffix
   ·rename_i p hp
    obtain ⟨j, _, e⟩ := quo_suf (s := s) (i := i) (t := p.1) (r := p.2) hp
    rw [e]; exact hd _
  split
  ·rw [List.drop_drop]; exact hd _
  ·exact List.nil_suffix
 exact ⟨s.length - (tokS (s.drop i)).2.2.length, Nat.sub_le _ _, Prod.ext rfl (Prod.ext h (List.suffix_iff_eq_drop.1 hs))⟩
attribute [local go_sem] icast8 tkA tkD in
theorem tokensOf_c (T : Tbl) (s : Tx) : PC Tryz.prog T 54 [.d (.str s)] (.tup [.d (.slc 3 (tksD (cutS s).1)), .d (.int .i64 (cutS s).2.1), .d (.int .i64 (cutS s).2.2)]) := by
 refine ⟨Tryz.call54, PCall.enterS Tryz.func54 rfl Tryz.ntmps54 rfl fun hb => ?_⟩
 simp only [go_sem, Tryz.results54]
 refine Zp 1 ?_
 refine Zs (Zp 9 ?_)
 refine Zc (fun hc0 => ?_) fun hc0 => ?_
 ·
  refine Zp 14 ?_
  refine AWp.ret ?_
  simp only [go_sem]
  rw [cutS, if_pos (by omega)]; simp [tksD]
 have hs : s.length ≤ 1048576 := by omega
 refine Zk ?_
 refine Zp 3 ?_
 refine Zp 7 ?_
 refine AWp.block (Zy ?_)
 refine AWp.ownNilS 5 3 rfl rfl (by decide) fun w0 fw0 => ?_
 try simp only [freshT] at fw0
 refine Zy ?_
 refine Zl 1 6 (fun n lc hc => ∃ (j w : Nat) (X : List Tk), n = 401 - X.length ∧ EqS lc [(5, .own w 3 (tksD X)), (6, .d (.int .i64 (j : Nat)))] ∧ EqS hc (⟨[], [w]⟩) ∧ (j ≤ s.length) ∧ (X.length ≤ 400) ∧ (cutF s (401 - X.length) X j = cutF s 401 [] 0)) ?_ ?_
 · refine ⟨_, 0, w0, [], rfl, ZE, ZE, ?_, ?_, ?_⟩
   all_goals (first | omega | rfl | (simp; done))
 rintro _ _ _ ⟨j, w, X, rfl, ⟨rfl⟩, ⟨rfl⟩, h1, h2, h3⟩
 obtain ⟨l2, l1, e1⟩ := plS_spec s j h1
 refine Zy ?_
 refine AWp.block (Z1 27 (silent_c T s j hs h1) ?_)
 refine Zs (Zp 39 ?_)
 refine Zc (fun hc1 => ?_) fun hc1 => ?_
 ·
  refine Zp 14 ?_
  refine AWp.ret ?_
  simp only [go_sem]
  rw [cutS, if_neg (by omega), ← h3, cu_4 h2 rfl hc1]; simp [tksD]
 have hok : okP s j = true := by simpa using hc1
 refine Zk ?_
 refine Zs (Zp 135 ?_)
 refine Zc (fun hc2 => ?_) fun hc2 => ?_
 ·
  refine Zp 14 ?_
  refine AWp.ret ?_
  simp only [go_sem]
  rw [cutS, if_neg (by omega), ← h3, cu_0 h2 rfl hok (by omega)]; simp [tksD]
 refine Zk ?_
 refine Zs (Zp 71 ?_)
 refine Zc (fun hc3 => ?_) fun hc3 => ?_
 ·
  refine Zp 14 ?_
  refine AWp.ret ?_
  simp only [go_sem]
  rw [cutS, if_neg (by omega), ← h3, cu_5 h2 rfl hok (by omega) (by omega)]; simp [tksD]
 refine Zk ?_
 by_cases hne : (tokS (s.drop (plS s j))).2.1 = 0
 ·
  obtain ⟨q, hql, hq⟩ := tok_suf (s := s) (i := plS s j) (by omega) hne
  have hte := tkEnd_0 hq hql
  refine Zx (Zy ?_)
  refine ZP (tokAt_c T s (plS s j) hs (by omega)) ?_
  simp only [go_sem, hte]
  intro b9
  first | intro fb9 | have fb9 := True.intro
  try simp only [freshL] at fb9
  refine Zm 63 ?_
  refine Zs (Zp 191 ?_)
  refine Zc (fun hc4 => ?_) fun hc4 => ?_
  ·
   exact absurd hc4 (by first | (simp; done) | omega | (simp [*]; done))
  refine Zk ?_
  refine Zx (Zy ?_)
  refine ZW fun t1 ft1 => ?_
  try simp only [freshT] at ft1
  refine Zy ?_
  refine Zm 19 ?_
  refine Zr (blkQ_n (thenQ_n ?_))
  refine Ze 1 6 [b9] [] [] [t1] (.e ⟨_, ?_, q, t1, X ++ [(tokS (s.drop (plS s j))).1], rfl, ?_, ZE, ?_, ?_, ?_⟩)
  · first | omega | (simp; omega) | (simp; omega)
  · (try simp only [go_sem]) <;> first | exact ⟨rfl⟩ | (constructor; simp [tksD, tkD]; done)
  · omega
  · simp; omega
  · rw [← h3, hq]; exact (cu_s h2 rfl hok (by omega) (by omega) hq hql).symm
 have hte := tkEnd_e hne
 refine Zx (Zy ?_)
 refine ZP (tokAt_c T s (plS s j) hs (by omega)) ?_
 simp only [go_sem, hte]
 intro b9
 first | intro fb9 | have fb9 := True.intro
 try simp only [freshL] at fb9
 refine Zm 63 ?_
 refine Zs (Zp 191 ?_)
 refine Zc (fun hc4 => ?_) fun hc4 => ?_
 ·
  refine Zp 14 ?_
  refine AWp.ret ?_
  simp only [go_sem]
  rw [cutS, if_neg (by omega), ← h3, cu_e h2 rfl hok (by omega) (by omega) hne rfl]; simp [tksD]
 exact absurd hc4 (by first | (simp; done) | omega | (simp [*]; done))
end
section
theorem sumF_le {α : Type} (f : α → Nat) {l : List α} {x : α} (h : x ∈ l) : f x ≤ (l.map f).sum := by
 induction l with
 | nil => simp at h
 | cons a l ih =>
  rw [List.map_cons, List.sum_cons]
  rcases List.mem_cons.1 h with rfl | h
  ·omega
  ·have := ih h; omega
theorem okC_texts {c : Cmd} (h : okC c = true) (hk : c.kind = 5 ∨ c.kind = 6) : 0 < c.texts.length := by
 rw [okC_eq] at h
 simp only [Bool.and_eq_true] at h
 have h := h.2
 rw [if_neg (by omega), if_pos (by simp [inB]; omega)] at h
 simp at h
 omega
theorem okC_flat {c : Cmd} (h : okC c = true) : c.thn = [] ∧ c.els = [] := by
 rw [okC_eq] at h
 simp only [Bool.and_eq_true, decide_eq_true_eq] at h
 exact ⟨List.eq_nil_of_length_eq_zero h.1.1.2, List.eq_nil_of_length_eq_zero h.1.2⟩
theorem Cmd.rd_of (c : Cmd) : csz c ≤ 1048576 → ∀ d : Int, cF c d = 0 → c.Rd := by
 induction c using Cmd.ind with
 | h c i1 i2 =>
  intro h d hc
  rw [csz_eq] at h
  have h1 := strs_len c.texts
  obtain ⟨_, hif, hno⟩ := cF_ok hc
  have hs : ∀ s ∈ c.texts, s.length ≤ 1048576 := fun s hs => by
   have := sumF_le (fun s : Str => s.length + 1) hs
   omega
  by_cases hk : c.kind = 2
  ·obtain ⟨_, ha, hb, he⟩ := hif hk
   refine ⟨fun h9 => by omega, by omega, hs, fun x hx => i1 x hx (by have := csz_mem hx; omega) _ (ha x hx), fun x hx => ?_⟩
   cases hel : elsifC c with
   | true => exact i2 x hx (by have := csz_mem hx; omega) _ (hb hel x hx)
   | false => exact i2 x hx (by have := csz_mem hx; omega) _ (he hel x hx)
  ·have ho := hno hk
   obtain ⟨e1, e2⟩ := okC_flat ho
   exact ⟨okC_texts ho, by omega, hs, fun x hx => by rw [e1] at hx; simp at hx, fun x hx => by rw [e2] at hx; simp at hx⟩
theorem numX_sz (l : List Cmd) : numX l ≤ cszL l := by
 induction l with
 | nil => simp [numX, cszL]
 | cons c l ih =>
  have h1 := strs_len c.texts
  have h2 := csz_eq c
  rw [cszL]
  simp only [numX, List.map_cons, List.sum_cons] at ih ⊢
  omega
theorem sParse_c (T : Tbl) (hS : ScT T) (l : List Tk) : PC Tryz.prog T 53 [.d (.slc 3 (tksD l))] (parV (parR l)) := PC.of_ac (Parse_a T hS l) (by simp [parV, LeA, LeL, LeD])
def rdL (s : Tx) : List Cmd := (parR (cutS s).1).1
def readR (s : Tx) : List Cmd × Int := if ¬ (cutS s).2.2 = 0 then ([], (cutS s).2.2) else if ¬ (parR (cutS s).1).2.2 = 0 then ([], (parR (cutS s).1).2.2) else if ¬ ruleE (rdL s) = 0 then ([], ruleE (rdL s)) else (rdL s, 0)
theorem readR_1 {s : Tx} (h : ¬ (cutS s).2.2 = 0) : readR s = ([], (cutS s).2.2) := if_pos h
theorem readR_2 {s : Tx} (h : (cutS s).2.2 = 0) (h2 : ¬ (parR (cutS s).1).2.2 = 0) : readR s = ([], (parR (cutS s).1).2.2) := by rw [readR, if_neg (fun h9 => h9 h), if_pos h2]
theorem readR_3 {s : Tx} (h : (cutS s).2.2 = 0) (h2 : (parR (cutS s).1).2.2 = 0) (h3 : ¬ ruleE (rdL s) = 0) : readR s = ([], ruleE (rdL s)) := by rw [readR, if_neg (fun h9 => h9 h), if_neg (fun h9 => h9 h2), if_pos h3]
theorem readR_0 {s : Tx} (h : (cutS s).2.2 = 0) (h2 : (parR (cutS s).1).2.2 = 0) (h3 : ruleE (rdL s) = 0) : readR s = (rdL s, 0) := by rw [readR, if_neg (fun h9 => h9 h), if_neg (fun h9 => h9 h2), if_neg (fun h9 => h9 h3)]
theorem rdL_sz (s : Tx) : cszL (rdL s) ≤ 1048576 := parR_sz (cutS_sz s).1 (cutS_sz s).2
theorem readR_sz (s : Tx) : cszL (readR s).1 ≤ 1048576 := by
 have := rdL_sz s
 unfold readR
 split
 ·simp [cszL]
 split
 ·simp [cszL]
 split
 ·simp [cszL]
 ·exact this
structure Szd (l : List Cmd) : Prop where
 hll : l.length * 208 ≤ 140737488355328
 ok : ∀ x ∈ l, x.Ok
 hl : (lsT l).length ≤ 4398046511104
 rd : chkE l = 0 → ∀ x ∈ l, x.Rd
 hx : numX l ≤ 1048576
theorem Szd.of {l : List Cmd} (h : cszL l ≤ 1048576) : Szd l := by
 have hn := cmds_len l
 have hs := lsT_len l
 have hx := numX_sz l
 refine ⟨by omega, fun x hx => Cmd.ok_of x (by have := csz_mem hx; omega), by omega, fun hz x hx => ?_, by omega⟩
 unfold chkE at hz
 split at hz
 ·rename_i h9
  exact Cmd.rd_of x (by have := csz_mem hx; omega) 0 (cFL_mem _ _ h9 x hx)
 ·omega
attribute [local go_sem] parV in
theorem Read_c (T : Tbl) (hL : LibT T) (hF : T 2 = flagT.map D.str) (hE : T 0 = extT.map D.str) (tb : Tabs T) (hS : ScT T) (hR : ErT T) (s : Tx) : PC Tryz.prog T 25 [.d (.str s)] (.tup [.d (.slc 12 ((readR s).1.map cmdD)), .d (.int .i64 (readR s).2)]) := by
 refine ⟨Tryz.call25, PCall.enterS Tryz.func25 rfl Tryz.ntmps25 rfl fun hb => ?_⟩
 have zz := Szd.of (rdL_sz s)
 have eL : (parR (cutS s).1).1 = rdL s := rfl
 simp only [go_sem, Tryz.results25]
 refine Zp 1 ?_
 refine Z1 10 (Cut_c T hL hR s) ?_
 refine Zs (Zp 11 ?_)
 refine Zc (fun hc0 => ?_) fun hc0 => ?_
 ·
  refine Zp 3 ?_
  refine AWp.ret ?_
  try simp only [go_sem, eL]
  rw [readR_1 hc0]; simp [LeA, LeL, LeD]
 refine Zk ?_
 refine Z1 6 (sParse_c T hS (cutS s).1) ?_
 refine Zs (Zp 11 ?_)
 refine Zc (fun hc1 => ?_) fun hc1 => ?_
 ·
  refine Zp 3 ?_
  refine AWp.ret ?_
  try simp only [go_sem, eL]
  rw [readR_2 hc0 hc1]; simp [LeA, LeL, LeD]
 refine Zk ?_
 refine Zs (Z1 6 (jCheck_c T hL hF hE tb (rdL s) zz.hll zz.ok zz.hl zz.rd) ?_)
 refine Zp 11 ?_
 refine Zc (fun hc2 => ?_) fun hc2 => ?_
 ·
  refine Zp 3 ?_
  refine AWp.ret ?_
  try simp only [go_sem, eL]
  rw [readR_3 hc0 hc1 hc2]; simp [LeA, LeL, LeD]
 refine Zk ?_
 refine Zp 3 ?_
 refine AWp.ret ?_
 try simp only [go_sem, eL]
 rw [readR_0 hc0 hc1 hc2]; simp [LeA, LeL, LeD]
attribute [local go_sem] parV in
theorem ScriptRead_c (T : Tbl) (hL : LibT T) (s : Tx) : PC Tryz.prog T 26 [.d (.str s)] (.tup [.d (.slc 12 ((readR s).1.map cmdD)), .d (.int .i64 (readR s).2)]) := by
 refine ⟨Tryz.call26, PCall.enterS Tryz.func26 rfl Tryz.ntmps26 rfl fun hb => ?_⟩
 have zz := Szd.of (rdL_sz s)
 have eL : (parR (cutS s).1).1 = rdL s := rfl
 simp only [go_sem, Tryz.results26]
 refine Zp 1 ?_
 refine Z1 10 (tokensOf_c T s) ?_
 refine Zs (Zp 11 ?_)
 refine Zc (fun hc0 => ?_) fun hc0 => ?_
 ·
  refine Zp 3 ?_
  refine AWp.ret ?_
  try simp only [go_sem, eL]
  rw [readR_1 hc0]; simp [LeA, LeL, LeD]
 refine Zk ?_
 refine Z1 6 (CommandsOf_c T (cutS s).1) ?_
 refine Zs (Zp 11 ?_)
 refine Zc (fun hc1 => ?_) fun hc1 => ?_
 ·
  refine Zq fun K_ k_ => ?_
  try simp only [go_sem, eL]
  (repeat (with_reducible refine And.intro ZS ?_))
  refine DW.pcr rfl rfl rfl rfl (scriptAllowed_c T hL (rdL s) zz.hll zz.ok zz.hl zz.rd zz.hx) rfl rfl ?_
  try simp only [go_sem, eL]
  (repeat (with_reducible refine And.intro ZS ?_))
  refine k_ _ _ (thenQ_n ?_)
  refine Zs (Zp 67 ?_)
  refine Zc (fun hc2 => ?_) fun hc2 => ?_
  ·
   refine Zp 3 ?_
   refine AWp.ret ?_
   try simp only [go_sem, eL]
   first | (rw [readR_3 hc0 hc1 hc2]; simp [LeA, LeL, LeD]; done) | (rw [readR_2 hc0 hc1]; simp [LeA, LeL, LeD])
  refine Zk ?_
  refine Zp 3 ?_
  refine AWp.ret ?_
  try simp only [go_sem, eL]
  first | exact absurd hc2 hc1 | (rw [readR_0 hc0 hc1 hc2]; simp [LeA, LeL, LeD])
 refine Zk ?_
 refine Zs (Zp 19 ?_)
 refine Zc (fun hc2 => ?_) fun hc2 => ?_
 ·
  refine Zp 3 ?_
  refine AWp.ret ?_
  try simp only [go_sem, eL]
  first | (rw [readR_3 hc0 hc1 hc2]; simp [LeA, LeL, LeD]; done) | (rw [readR_2 hc0 hc1]; simp [LeA, LeL, LeD])
 refine Zk ?_
 refine Zp 3 ?_
 refine AWp.ret ?_
 try simp only [go_sem, eL]
 first | exact absurd hc2 hc1 | (rw [readR_0 hc0 hc1 hc2]; simp [LeA, LeL, LeD])
attribute [local go_sem] decide_true in
theorem ruleReads_c (T : Tbl) (hL : LibT T) (hF : T 2 = flagT.map D.str) (hE : T 0 = extT.map D.str) (tb : Tabs T) (hS : ScT T) (hR : ErT T) (s : Tx) : PC Tryz.prog T 7 [.d (.str s)] (.d (.bool true)) := by
 refine ⟨Tryz.call7, PCall.enterS Tryz.func7 rfl Tryz.ntmps7 rfl fun hb => ?_⟩
 have zy := Szd.of (readR_sz s)
 simp only [go_sem, Tryz.results7]
 refine Zp 1 ?_
 refine Z1 7 (Read_c T hL hF hE tb hS hR s) ?_
 refine Z1 30 (ScriptRead_c T hL s) ?_
 refine Zx ?_
 try simp only [go_sem]
 (repeat (with_reducible refine And.intro ZS ?_))
 refine DW.pcgr rfl rfl rfl rfl rfl (fun hg => sameCommands_c T (readR s).1 zy.hll zy.ok) (fun hg => by (try simp only [go_sem]) <;> first | exact hg | (exfalso; simp at hg; done) | (simpa using hg) | grind) rfl rfl ?_
 try simp only [go_sem]
 (repeat (with_reducible refine And.intro ZS ?_))
 refine Zm 1 ?_
 refine AWp.ret ?_
 try simp only [go_sem]
 try simp [LeA, LeD]
end
section
open Go.RowKit Go.ChangeShapes Go.WideShapes Go.ChangeAt
open Go.ChangeShapes Go.WideShapes Go.ChangeAt
open Go.ChangeMaps (open_string)
set_option maxRecDepth 100000
theorem iface_of_laid {P : Program} {W : World} {name dn : String} {dd : DataW Unit} {ms : Array (String × TypeId)} {l : List (String × DataW Unit)} {g : Nat} {t : TypeId}
  (hg : P.globalNamed name = some g) (hty : (P.globals[g]?).map (·.type) = some t) (ht : P.underlying t = some (.interface ms))
  (hm : (name, .iface dn dd) ∈ l) (hp : (l.all fun x => x.2.handleName?.isNone) = true) (h : laidMetH P l W) : ∃ te pe, W.cell? ⟨g, 0, none⟩ = some (.iface te pe) := by
 rw [laidMetH_plain' P l W hp] at h
 obtain ⟨ps, hl, _⟩ := h
 obtain ⟨g', t', cs, fuel, p, hg', ht', hvar, hd⟩ := laid_row hl hm
 obtain rfl := Option.some.inj (hg.symm.trans hg')
 obtain rfl := Option.some.inj (hty.symm.trans ht')
 rw [World.var?_cell hg hvar 0, ← Array.getElem?_toList]
 cases fuel with
 | zero => simp [DataW.trod] at hd
 | succ fuel =>
  unfold DataW.trod at hd
  rw [ht] at hd
  revert hd
  generalize cs.toList = zs
  intro hd
  match zs, hd with
  | [.nilIface], hd => simp at hd
  | [.iface u v], hd => exact ⟨u, v, rfl⟩
theorem TabOk.raw {W : World} {g : Nat} {v : Value} (h : W.cell? ⟨g, 0, none⟩ = some v) (hv : v.oneCell' = true) : TabOk W (g, [.raw v]) := ⟨fun j x hx => by
 cases j with
 | zero => simp at hx; subst hx; exact ⟨_, h, .raw _ hv⟩
 | succ j => simp at hx⟩
def laySent (w : World) (g u e : Nat) (s : List UInt8) : World :=
 let w1 := w.alloc (.cells #[.string ⟨s.toArray⟩] e)
 { w1 with heap := w1.heap.modify g fun
   | .cells _ t frozen => .cells #[.iface u (.pointer (some ⟨w.heap.size, 0, none⟩))] t frozen
   | o => o }
theorem ruleReads_run {H : Type} {enc : TypeId × Value → H} (W : World) (base : Nat) (v0 : Value) (d0 : DataW H) (p0 : List MemPlace)
  (k0 : Value.okWide Tryz.prog W .any base 9 v0) (h0 : DataW.Trod enc Tryz.prog W 0 (fun _ => true) true 9 v0 d0 p0) (s0 : Small Tryz.prog 9 d0)
  (hL : laidMetH Tryz.prog Rows.ruleReadsRow.laid W) (hsh : W.ShapedOpen Tryz.prog) :
  Calls Tryz.prog 7 #[v0] W fun e W' => e = .returned (.bool true) ∧ Below W.heap.size W W' := by
 obtain ⟨z, rfl, rfl, rfl, hzs⟩ := open_string Tryz.underlying9 k0 h0
 obtain ⟨_, m, hm⟩ := Lib0.open_ hsh
 obtain ⟨te, pe, he⟩ := iface_of_laid (g := 10) (name := "strconv.ErrRange") (by kernel_rfl) (by kernel_rfl) Tryz.underlying286 (show _ ∈ Rows.ruleReadsRow.laid from .tail _ (.tail _ (.tail _ (.tail _ (.head _))))) (by kernel_rfl) hL
 obtain ⟨q0, _⟩ := texts_of_laid (zs := cmdWs) (g := 1) (name := "postroom/script.commands") (by kernel_rfl) (by kernel_rfl) Tryz.underlying243 Tryz.underlying9 (by kernel_rfl) (by kernel_rfl) (List.mem_cons_of_mem _ (List.mem_cons_of_mem _ (List.mem_cons_of_mem _ (List.mem_cons_of_mem _ (List.mem_cons_of_mem _ (List.mem_cons_of_mem _ (List.mem_cons_self ..))))))) (by kernel_rfl) hL
 obtain ⟨q1, _⟩ := texts_of_laid (zs := tstWs) (g := 4) (name := "postroom/script.tests") (by kernel_rfl) (by kernel_rfl) Tryz.underlying243 Tryz.underlying9 (by kernel_rfl) (by kernel_rfl) (List.mem_cons_of_mem _ (List.mem_cons_of_mem _ (List.mem_cons_of_mem _ (List.mem_cons_of_mem _ (List.mem_cons_of_mem _ (List.mem_cons_of_mem _ (List.mem_cons_of_mem _ (List.mem_cons_self ..)))))))) (by kernel_rfl) hL
 obtain ⟨q2, _⟩ := texts_of_laid (zs := matWs) (g := 6) (name := "postroom/script.matches") (by kernel_rfl) (by kernel_rfl) Tryz.underlying123 Tryz.underlying9 (by kernel_rfl) (by kernel_rfl) (List.mem_cons_of_mem _ (List.mem_cons_of_mem _ (List.mem_cons_of_mem _ (List.mem_cons_of_mem _ (List.mem_cons_of_mem _ (List.mem_cons_of_mem _ (List.mem_cons_of_mem _ (List.mem_cons_of_mem _ (List.mem_cons_self ..))))))))) (by kernel_rfl) hL
 obtain ⟨q3, _⟩ := texts_of_laid (zs := parWs) (g := 5) (name := "postroom/script.parts") (by kernel_rfl) (by kernel_rfl) Tryz.underlying123 Tryz.underlying9 (by kernel_rfl) (by kernel_rfl) (List.mem_cons_of_mem _ (List.mem_cons_of_mem _ (List.mem_cons_of_mem _ (List.mem_cons_of_mem _ (List.mem_cons_of_mem _ (List.mem_cons_of_mem _ (List.mem_cons_of_mem _ (List.mem_cons_of_mem _ (List.mem_cons_of_mem _ (List.mem_cons_self ..)))))))))) (by kernel_rfl) hL
 obtain ⟨q4, _⟩ := texts_of_laid (zs := extT) (g := 0) (name := "postroom/rule.extensions") (by kernel_rfl) (by kernel_rfl) Tryz.underlying123 Tryz.underlying9 (by kernel_rfl) (by kernel_rfl) (List.mem_cons_of_mem _ (List.mem_cons_of_mem _ (List.mem_cons_of_mem _ (List.mem_cons_of_mem _ (List.mem_cons_of_mem _ (List.mem_cons_of_mem _ (List.mem_cons_of_mem _ (List.mem_cons_of_mem _ (List.mem_cons_of_mem _ (List.mem_cons_of_mem _ (List.mem_cons_self ..))))))))))) (by kernel_rfl) hL
 obtain ⟨q5, _⟩ := texts_of_laid (zs := flagT) (g := 2) (name := "postroom/rule.names") (by kernel_rfl) (by kernel_rfl) Tryz.underlying281 Tryz.underlying9 (by kernel_rfl) (by kernel_rfl) (List.mem_cons_of_mem _ (List.mem_cons_of_mem _ (List.mem_cons_of_mem _ (List.mem_cons_of_mem _ (List.mem_cons_of_mem _ (List.mem_cons_of_mem _ (List.mem_cons_of_mem _ (List.mem_cons_of_mem _ (List.mem_cons_of_mem _ (List.mem_cons_of_mem _ (List.mem_cons_of_mem _ (List.mem_cons_self ..)))))))))))) (by kernel_rfl) hL
 let tb : List (Nat × List D) := [(1, cmdWs.map D.str), (4, tstWs.map D.str), (6, matWs.map D.str), (5, parWs.map D.str), (0, extT.map D.str), (2, flagT.map D.str), (10, [.raw (.iface te pe)]), (3, [.int .i64 m])]
 have hT : ∀ p ∈ tb, TabOk W p := by
  intro p hp
  simp only [tb, List.mem_cons, List.not_mem_nil, or_false] at hp
  rcases hp with rfl | rfl | rfl | rfl | rfl | rfl | rfl | rfl
  ·exact .texts q0 (by decide)
  ·exact .texts q1 (by decide)
  ·exact .texts q2 (by decide)
  ·exact .texts q3 (by decide)
  ·exact .texts q4 (by decide)
  ·exact .texts q5 (by decide)
  ·exact .raw he rfl
  ·exact .int hm
 refine law_calls (T := tabT tb) (ruleReads_c (tabT tb) ⟨m, rfl⟩ rfl rfl ⟨rfl, rfl, rfl, rfl⟩ ⟨rfl, rfl, rfl, rfl⟩ ⟨te, pe, rfl⟩ z.data.toList) (tabT_ok hT) ⟨rfl, fun i x hx => ?_⟩
 match i, hx with
 | 0, hx =>
  simp at hx
  subst hx
  exact ⟨_, rfl, .d (.str z hzs)⟩
 | i + 1, hx => simp at hx
end
end Go.Proofs.YtidldcfpmehpiaaGreatDoor

/- Texts that the laws rest on, packed. -/
import Derived.Test.YtidldcfpmehpiaaGreatDoorGB
import Derived.MapKept
set_option linter.unusedSimpArgs false
set_option linter.unusedVariables false
set_option maxRecDepth 20000
set_option maxHeartbeats 4000000
namespace Go.Proofs.YtidldcfpmehpiaaGreatDoor
section
open Go.RowKit
section
variable {P : Program} {T : Tbl} {G : Gh} {h : AH} {w : World}
variable {sl : List AV} {ops : Array Oper} {rest : List Oper} {o : Oper} {K : List AV → AH → Prop} {X : AV → AH → Prop} {cp : Bool} {Q : AQ}
end
end
section
open Go.RowKit
section
variable {P : Program} {T : Tbl} {c : Code} {Q : AQ} {h : AH}
theorem AWp.nd {sl : List AV} (H : (h.objs.map Prod.fst).Nodup → AWp P T c Q sl h) : AWp P T c Q sl h := fun G w a S R => H S.nd G w a S R
end
end
section
open Go.RowKit
section
variable {P : Program} {T : Tbl} {Q : AQ}
end
end
section
open Go.RowKit
section
variable {P : Program} {T : Tbl} {ops : Array Oper} {K : List AV → AH → Prop} {X : AV → AH → Prop} {o : Oper} {rest : List Oper} {sl : List AV} {h : AH}
theorem DW.listB {cp : Bool} (post : List Oper) : ∀ (pre : List Oper) (sl : List AV) (h : AH), DW P T cp ops pre sl h (fun s h => LV P T ops post s h K X) X → LV P T ops (pre ++ post) sl h K X
 | [], sl, h, H => H
 | o :: rest, sl, h, H => by
  intro G0 G w a ds hG S R hd
  unfold DW at H
  split at H
  ·obtain ⟨hg, H⟩ := H
   refine wpList_plain hg fun K' hK' => H G w a S (fun x _ => ev_ok S R x) K' _ (fun r h' G' u w' hr hG' S' hu => ?_) (fun p h' G' u w' hp hG' S' hu => ?_)
   ·exact hK' _ _ (DW.listB post rest _ _ hr G0 G' w' _ ds (hG.trans hG') S' ((R.mono hG').put hu o.dst) (by rw [put_defers]; exact hd))
   ·exact ⟨hd, .pan p, sl, h', G', hp, ⟨u, rfl, hu⟩, hG.trans hG', S', R.mono hG'⟩
  ·obtain ⟨v, hy, _, hr⟩ := H
   refine wpList_step fun K' hK' => hy.run S R fun G' u w' hG' S' hu => ?_
   exact hK' _ _ (DW.listB post rest _ _ hr G0 G' w' _ ds (hG.trans hG') S' ((R.mono hG').put hu o.dst) (by rw [put_defers]; exact hd))
theorem DW.skipc {cp : Bool} {g : Nat × Bool} (hg : o.guard = some g) (ht : gdA ops sl g.1 g.2 = some false) (k : Go.Proofs.YtidldcfpmehpiaaGreatDoor.lvc P T cp ops rest (putA o.dst (.cnd false .undef) sl) h K X) : DW P T cp ops (o :: rest) sl h K X := by
 unfold DW
 rw [if_neg (by unfold effK; rw [hg]; simp)]
 exact ⟨.cnd false .undef, by unfold Yg; rw [hg]; exact ⟨false, .undef, ht, rfl, fun e => by cases e⟩, fun _ h' => by unfold Yg; rw [hg]; exact ⟨false, .undef, ht, rfl, fun e => by cases e⟩, lvc_ok rest _ _ k⟩
theorem LV.lvc {l : List Oper} (H : lvc P T false ops l sl h K X) : LV P T ops l sl h K X := DW.list l sl h (lvc_ok l sl h H)
theorem LV.leH {l : List Oper} {h' : AH} (p : LeH h h') (H : LV P T ops l sl h' K X) : LV P T ops l sl h K X := fun G0 G w a ds hG S R hd => H G0 G w a ds hG (p _ _ _ S) R hd
theorem LV.gcall {c : Call} {fo : Operand} {f : FuncId} {cap args : List AV} {g : Nat × Bool} {h0 : AH} {R : AR → AH → Prop} (ho : o.op = .call c) (hg : o.guard = some g) (ht : gdA ops sl g.1 g.2 = some true) (hc : c.callee = .value fo) (hf : evs T sl fo = .fn f cap)
  (hok : okL T sl (fo :: c.args.toList) = true) (p : LeH h h0) (ha : c.args.toList.map (evs T sl) ++ cap = args) (C : AC P T f args h0 R)
  (k : ∀ x h', R x h' → match x with
   | .ret r => LV P T ops rest (putA o.dst (.cnd true r) sl) h' K X
   | .pan p => X p h') : LV P T ops (o :: rest) sl h K X := by
 intro G0 G w a ds hG S R hd
 refine wpList_step fun K' hK' => ?_
 rw [gdA_ok R ht hg, if_pos rfl]
 obtain ⟨vs, hrun, hvs⟩ := run_call (ρ := evs T sl) ho hc hf (a := a) (fun x hx => (ev_ok S R x).strip (okL_mem hok (by
  rw [ho] at hx
  simpa [Op.operands, Call.operands, hc] using hx))) C.call
 rw [ha] at hvs
 unfold Oper.wp
 rw [hrun]
 refine (C.run G w vs (p _ _ _ S) hvs).mono ?_
 rintro e w' ⟨x, h', G', hR, hG', S', hx⟩
 have hk := k x h' hR
 cases x with
 | ret r =>
  obtain ⟨v, rfl, hv⟩ := hx
  exact hK' _ _ (hk G0 G' w' _ ds (hG.trans hG') S' ((R.mono hG').put (.cndT hv) o.dst) (by rw [put_defers]; exact hd))
 | pan q =>
  obtain ⟨v, rfl, hv⟩ := hx
  exact ⟨hd, .pan q, sl, h', G', hk, ⟨v, rfl, hv⟩, hG.trans hG', S', R.mono hG'⟩
theorem AWp.regG {id : Nat} {l : List Oper} {Q : AQ} (i : Nat) (H : Go.Proofs.YtidldcfpmehpiaaGreatDoor.lvc P T false l.toArray (l.take i) sl h (fun s h => LV P T l.toArray (l.drop i) s h (fun s h => Q .normal s h) (fun p h => ∀ s, Q (.pan p) s h)) (fun p h => ∀ s, Q (.pan p) s h)) : AWp P T (.region id l.toArray false) Q sl h :=
 AWp.of_lift fun G w a S R => by
  have h1 := DW.listB (P := P) (T := T) (ops := l.toArray) (K := fun s h => Q .normal s h) (X := fun p h => ∀ s, Q (.pan p) s h) (l.drop i) (l.take i) sl h (lvc_ok _ sl h H)
  rw [List.take_append_drop] at h1
  exact wp_region_lit (h1 G G w a a.defers (Gle.refl G) S R rfl)
theorem AWp.rsG {id : Nat} {l : List Oper} {y : Code} {Q : AQ} (i : Nat) (H : ∀ K : List AV → AH → Prop, (∀ s h, AWp P T y Q s h → K s h) → Go.Proofs.YtidldcfpmehpiaaGreatDoor.lvc P T false l.toArray (l.take i) sl h (fun s h => LV P T l.toArray (l.drop i) s h K (fun p h => ∀ s, Q (.pan p) s h)) (fun p h => ∀ s, Q (.pan p) s h)) : AWp P T (.seq (.region id l.toArray false) y) Q sl h :=
 AWp.seq fun K hK => AWp.regG i (H K hK)
end
end
section
open Go.RowKit
section
variable {P : Program} {T : Tbl} {ops : Array Oper} {K : List AV → AH → Prop} {X : AV → AH → Prop} {o o2 : Oper} {rest : List Oper} {sl : List AV} {h : AH}
end
end
section
open Go.RowKit
section
variable {P : Program} {T : Tbl} {Q : AQ} {sl : List AV}
end
end
section
open Go.RowKit
section
variable {P : Program} {T : Tbl} {cp : Bool} {ops : Array Oper} {K : List AV → AH → Prop} {X : AV → AH → Prop} {o : Oper} {rest : List Oper} {sl : List AV} {h : AH}
end
end
section
open Go.RowKit
section
variable {P : Program} {T : Tbl} {cp : Bool} {ops : Array Oper} {K : List AV → AH → Prop} {X : AV → AH → Prop} {o : Oper} {rest : List Oper} {sl : List AV} {h : AH}
end
end
section
open Go.RowKit
def AAnyM (P : Program) (T : Tbl) (cp : Bool) (md : Region.Mode) (ops : Array Oper) (e0 : Nat) (M : AH → Prop) (K : List AV → AH → Prop) (X : AV → AH → Prop) : Nat → Array Bool → List AV → AH → Prop
 | 0, listed, sl, h => (listed.getD e0 false = false → M h) ∧ Region.ready md ops listed = [] ∧ K sl h
 | fuel + 1, listed, sl, h => (listed.getD e0 false = false → M h) ∧ (Region.ready md ops listed = [] → K sl h) ∧ ∀ i ∈ Region.ready md ops listed, aOp P T cp ops X i (AAnyM P T cp md ops e0 M K X fuel (listed.setIfInBounds i true)) sl h
section
variable {P : Program} {T : Tbl} {cp : Bool} {md : Region.Mode} {ops : Array Oper} {K : List AV → AH → Prop} {X : AV → AH → Prop}
theorem AAnyM.any {e0 : Nat} {M : AH → Prop} : ∀ (fuel : Nat) (listed : Array Bool) (sl : List AV) (h : AH), AAnyM P T cp md ops e0 M K X fuel listed sl h → AAny P T cp md ops K X fuel listed sl h
 | 0, _, _, _, H => H.2
 | fuel + 1, listed, sl, h, H => ⟨H.2.1, fun i hi => by
  have h1 := H.2.2 i hi
  unfold aOp at h1 ⊢
  split
  ·rename_i e
   rw [e] at h1
   exact AAnyM.any fuel _ _ _ h1
  ·rename_i o e
   rw [e] at h1
   dsimp only at h1
   split
   ·rename_i he
    rw [if_pos he] at h1
    exact h1.monoN fun r h' hN => AAnyM.any fuel _ _ _ hN
   ·rename_i he
    rw [if_neg he] at h1
    obtain ⟨u, g1, g2, g3⟩ := h1
    exact ⟨u, g1, g2, AAnyM.any fuel _ _ _ g3⟩⟩
theorem e0_un {i e0 : Nat} {listed : Array Bool} (hd : DC md ops listed) (hr : i ∈ Region.ready md ops listed) (hw : waits md ops ops.size e0 i = true) (he : ∃ o0, ops[e0]? = some o0) : listed.getD e0 false = false := by
 obtain ⟨o0, he⟩ := he
 have hiun := getD_false_of (mem_ready.1 hr).1
 cases hl : listed.getD e0 false with
 | false => rfl
 | true =>
  rw [waits_listed hd hiun _ e0 o0 he (hd _ _ he hl)] at hw
  cases hw
theorem getD_true_set {listed : Array Bool} {e0 i : Nat} (h : listed.getD e0 false = true) : (listed.setIfInBounds i true).getD e0 false = true := by
 by_cases hi : i = e0
 ·subst hi
  exact getD_set_true h
 ·rw [getD_set_ne false hi]; exact h
theorem AAny.toM {e0 : Nat} {M : AH → Prop} : ∀ (fuel : Nat) (listed : Array Bool) (sl : List AV) (h : AH), listed.getD e0 false = true → AAny P T cp md ops K X fuel listed sl h → AAnyM P T cp md ops e0 M K X fuel listed sl h
 | 0, _, _, _, hl, H => ⟨fun e => (by rw [hl] at e; cases e), H⟩
 | fuel + 1, listed, sl, h, hl, H => ⟨fun e => (by rw [hl] at e; cases e), H.1, fun i hi => by
  have h1 := H.2 i hi
  have hl' := getD_true_set (i := i) hl
  unfold aOp at h1 ⊢
  split
  ·rename_i e
   rw [e] at h1
   exact AAny.toM fuel _ _ _ hl' h1
  ·rename_i o e
   rw [e] at h1
   dsimp only at h1
   split
   ·rename_i he
    rw [if_pos he] at h1
    exact h1.monoN fun r h' hN => AAny.toM fuel _ _ _ hl' hN
   ·rename_i he
    rw [if_neg he] at h1
    obtain ⟨u, g1, g2, g3⟩ := h1
    exact ⟨u, g1, g2, AAny.toM fuel _ _ _ hl' g3⟩⟩
end
end
section
open Go.RowKit
section
variable {P : Program} {T : Tbl} {cp : Bool} {md : Region.Mode} {ops : Array Oper} {K : List AV → AH → Prop} {X : AV → AH → Prop}
theorem AAnyM.freeN {i : Nat} {oi : Oper} {v : AV} {e0 : Nat} {M : AH → Prop} (hne0 : i ≠ e0) (hw0 : hiK oi = true ∨ waits md ops ops.size e0 i = true) (he0 : ∃ o0, ops[e0]? = some o0) (hi : ops[i]? = some oi) (hni : effK cp oi = false) : ∀ (fuel : Nat) (listed : Array Bool) (sl : List AV) (h : AH), DC md ops listed →
  (∀ j oj, ops[j]? = some oj → j ≠ i → listed.getD j true = false → waits md ops ops.size j i = false → oi.apart ops oj = true) →
  i ∈ Region.ready md ops listed → (∀ h', (hiK oi = false → M h') → Yg P T ops oi v sl h') →
  AAnyM P T cp md ops e0 M K X fuel (listed.setIfInBounds i true) (putA oi.dst v sl) h → AAnyM P T cp md ops e0 M K X (fuel + 1) listed sl h := by
 intro fuel
 induction fuel with
 | zero =>
  intro listed sl h hdc _ hr hy H
  have hMu : listed.getD e0 false = false → M h := fun e => H.1 (by rw [getD_set_ne false hne0]; exact e)
  have hM : hiK oi = false → M h := fun e => hMu (hw0.elim (fun t => by rw [e] at t; cases t) fun t => e0_un hdc hr t he0)
  refine ⟨hMu, fun h0 => (by rw [h0] at hr; cases hr), fun j hj => ?_⟩
  by_cases hji : j = i
  ·subst hji
   unfold aOp
   rw [hi]
   dsimp only
   rw [if_neg (by rw [hni]; simp)]
   exact ⟨v, hy h hM, fun hh h' => hy h' (fun e => by rw [e] at hh; cases hh), H⟩
  ·have := ready_mono hj hji
   rw [H.2.1] at this
   cases this
 | succ fuel ih =>
  intro listed sl h hdc hfree hr hy H
  have hMu : listed.getD e0 false = false → M h := fun e => H.1 (by rw [getD_set_ne false hne0]; exact e)
  have hM : hiK oi = false → M h := fun e => hMu (hw0.elim (fun t => by rw [e] at t; cases t) fun t => e0_un hdc hr t he0)
  refine ⟨hMu, fun h0 => (by rw [h0] at hr; cases hr), fun j hj => ?_⟩
  by_cases hji : j = i
  ·subst hji
   unfold aOp
   rw [hi]
   dsimp only
   rw [if_neg (by rw [hni]; simp)]
   exact ⟨v, hy h hM, fun hh h' => hy h' (fun e => by rw [e] at hh; cases hh), H⟩
  ·have h1 := H.2.2 j (ready_mono hj hji)
   obtain ⟨hjun, oj, hoj, hall⟩ := mem_ready.1 hj
   have hiun := getD_false_of (mem_ready.1 hr).1
   have hap := hfree j oj hoj hji hjun (waits_listed hdc hiun _ _ _ hoj hall)
   obtain ⟨a1, a2, a3⟩ := Oper.apart_spec hap
   have hfree' : ∀ k ok, ops[k]? = some ok → k ≠ i → (listed.setIfInBounds j true).getD k true = false → waits md ops ops.size k i = false → oi.apart ops ok = true := fun k ok hk hki hun hw => by
    refine hfree k ok hk hki ?_ hw
    by_cases hjk : j = k
    ·subst hjk; exact hjun
    ·rw [getD_set_ne true hjk] at hun; exact hun
   have next : ∀ (u : AV) (h' : AH), AAnyM P T cp md ops e0 M K X fuel ((listed.setIfInBounds i true).setIfInBounds j true) (putA oj.dst u (putA oi.dst v sl)) h' → AAnyM P T cp md ops e0 M K X (fuel + 1) (listed.setIfInBounds j true) (putA oj.dst u sl) h' := fun u h' hN => by
    refine ih (listed.setIfInBounds j true) (putA oj.dst u sl) h' (hdc.step hj) hfree' (ready_mono hr (Ne.symm hji)) (fun h2 m2 => (hy h2 m2).put a3) ?_
    rw [Array.setIfInBounds_comm _ _ hji, putA_comm a2]
    exact hN
   unfold aOp at h1 ⊢
   rw [hoj] at h1 ⊢
   dsimp only at h1 ⊢
   split
   ·rename_i he
    rw [if_pos he] at h1
    exact h1.unput a1 fun r h' hN => next r h' hN
   ·rename_i he
    rw [if_neg he] at h1
    obtain ⟨u, g1, g2, g3⟩ := h1
    exact ⟨u, g1.unput a1, fun hk h2 => (g2 hk h2).unput a1, next u h g3⟩
def CHN (P : Program) (T : Tbl) (cp : Bool) (ops : Array Oper) (M : AH → Prop) (lz : List Oper) (K : List AV → AH → Prop) (X : AV → AH → Prop) : List Oper → List AV → AH → Prop
 | [], s, h => DW P T cp ops lz s h K X
 | o :: l, s, h => DW P T cp ops [o] s h (fun s2 h2 => M h2 ∧ CHN P T cp ops M lz K X l s2 h2) X
def ordCN (cp : Bool) (md : Region.Mode) (ops : Array Oper) (e0 : Nat) (ord2 : List Nat) : List Nat → Array Bool → Bool
 | [], listed => ordB cp md ops (e0 :: ord2) listed
 | i :: r, listed => (Region.ready md ops listed == [i]) && ordCN cp md ops e0 ord2 r (listed.setIfInBounds i true)
theorem CHN.any {e0 : Nat} {oe : Oper} {M : AH → Prop} {ord2 : List Nat} {l2 : List Oper} (hoe : ops[e0]? = some oe) (hee : effK cp oe = true) (hl2 : l2.length = ord2.length) (hm2 : ∀ (n i : Nat), ord2[n]? = some i → l2[n]? = ops[i]?) : ∀ (ord : List Nat) (l : List Oper) (listed : Array Bool) (sl : List AV) (h : AH), l.length = ord.length → (∀ (n i : Nat), ord[n]? = some i → l[n]? = ops[i]?) → DC md ops listed → ordCN cp md ops e0 ord2 ord listed = true → M h →
  CHN P T cp ops M (oe :: l2) K X l sl h → AAnyM P T cp md ops e0 M K X (ord.length + (ord2.length + 1)) listed sl h
 | [], [], listed, sl, h, _, _, hdc, hB, hM, H => by
  unfold ordCN ordB at hB
  rw [hoe] at hB
  simp only [Bool.and_eq_true, hee, if_true] at hB
  obtain ⟨⟨hr, hf⟩, hB'⟩ := hB
  have hr : e0 ∈ Region.ready md ops listed := by simpa using hr
  have hone : Region.ready md ops listed = [e0] := by simpa using hf
  rw [List.length_nil, Nat.zero_add]
  refine ⟨fun _ => hM, fun h0 => (by rw [h0] at hr; cases hr), fun j hj => ?_⟩
  rw [hone] at hj
  have hj : j = e0 := by simpa using hj
  subst hj
  unfold aOp
  rw [hoe]
  dsimp only
  rw [if_pos hee]
  have H : DW P T cp ops (oe :: l2) sl h K X := H
  unfold DW at H
  rw [if_pos hee] at H
  have hlt : j < listed.size := by
   rcases Nat.lt_or_ge j listed.size with h1 | h1
   ·exact h1
   ·have := (mem_ready.1 hr).1
    simp [Array.getElem?_eq_none h1] at this
  exact H.monoN fun r h' hN => AAny.toM _ _ _ _ (by simp [hlt]) (DW.any ord2 l2 _ _ _ hl2 hm2 (hdc.step hr) hB' hN)
 | [], _ :: _, _, _, _, hl, _, _, _, _, _ => by simp at hl
 | _ :: _, [], _, _, _, hl, _, _, _, _, _ => by simp at hl
 | i :: ord, o :: l, listed, sl, h, hl, hmap, hdc, hB, hM, H => by
  have hi : ops[i]? = some o := (hmap 0 i rfl).symm
  unfold ordCN at hB
  simp only [Bool.and_eq_true] at hB
  obtain ⟨hf, hB'⟩ := hB
  have hone : Region.ready md ops listed = [i] := by simpa using hf
  have hr : i ∈ Region.ready md ops listed := by rw [hone]; exact List.mem_cons_self ..
  rw [List.length_cons, Nat.succ_add]
  have next : ∀ (s2 : List AV) (h2 : AH), M h2 ∧ CHN P T cp ops M (oe :: l2) K X l s2 h2 → AAnyM P T cp md ops e0 M K X (ord.length + (ord2.length + 1)) (listed.setIfInBounds i true) s2 h2 := fun s2 h2 hN =>
   CHN.any hoe hee hl2 hm2 ord l _ _ _ (by simpa using hl) (fun n k e => by simpa using hmap (n + 1) k (by simpa using e)) (hdc.step hr) hB' hN.1 hN.2
  refine ⟨fun _ => hM, fun h0 => (by rw [h0] at hr; cases hr), fun j hj => ?_⟩
  rw [hone] at hj
  have hj : j = i := by simpa using hj
  subst hj
  have H : DW P T cp ops [o] sl h (fun s2 h2 => M h2 ∧ CHN P T cp ops M (oe :: l2) K X l s2 h2) X := H
  unfold DW at H
  unfold aOp
  rw [hi]
  dsimp only
  split
  ·rename_i he
   rw [if_pos he] at H
   refine H.monoN fun r h' hN => ?_
   unfold DW at hN
   exact next _ _ hN
  ·rename_i he
   rw [if_neg he] at H
   obtain ⟨v, g1, g2, g3⟩ := H
   unfold DW at g3
   exact ⟨v, g1, g2, next _ _ g3⟩
def FRN (P : Program) (T : Tbl) (ops : Array Oper) (M : AH → Prop) (K : List AV → Prop) : List Oper → List AV → Prop
 | [], s => K s
 | o :: r, s => ∃ v, (∀ h', (hiK o = false → M h') → Yg P T ops o v s h') ∧ FRN P T ops M K r (putA o.dst v s)
theorem FRN.nil {M : AH → Prop} {K : List AV → Prop} {s : List AV} (H : K s) : FRN P T ops M K [] s := H
theorem FRN.ld {M : AH → Prop} {K : List AV → Prop} {o : Oper} {r : List Oper} {s : List AV} {v : AV} (hl : hiK o = false) (hg : o.guard = none) (hv : ∀ h', M h' → okV (opP P o.op (ev T s) h') v) (H : FRN P T ops M K r (putA o.dst v s)) : FRN P T ops M K (o :: r) s :=
 ⟨v, fun h' hm => Yg.of_okV hg (hv h' (hm hl)), H⟩
theorem FRN.op {M : AH → Prop} {K : List AV → Prop} {o : Oper} {r : List Oper} {s : List AV} {v : AV} (hg : o.guard = none) (hv : ∀ h', okV (opP P o.op (ev T s) h') v) (H : FRN P T ops M K r (putA o.dst v s)) : FRN P T ops M K (o :: r) s :=
 ⟨v, fun h' hm => Yg.of_okV hg (hv h'), H⟩
def ordFN (cp : Bool) (md : Region.Mode) (ops : Array Oper) (e0 : Nat) : List Nat → Array Bool → Bool
 | [], _ => true
 | i :: r, listed => (Region.ready md ops listed).contains i && (match ops[i]? with
  | some o => !effK cp o && (hiK o || waits md ops ops.size e0 i)
  | none => false) && freeB md ops listed i && !(i == e0) && ordFN cp md ops e0 r (listed.setIfInBounds i true)
theorem AAnyM.frn {fuel : Nat} {e0 : Nat} {M : AH → Prop} (hoe : ∃ o, ops[e0]? = some o) {K2 : List AV → Prop} {h : AH} :
  ∀ (fr : List Nat) (lf : List Oper) (listed : Array Bool) (s : List AV), lf.length = fr.length → (∀ (n i : Nat), fr[n]? = some i → lf[n]? = ops[i]?) → DC md ops listed → ordFN cp md ops e0 fr listed = true →
   (∀ s, DC md ops (lst fr listed) → K2 s → AAnyM P T cp md ops e0 M K X fuel (lst fr listed) s h) → FRN P T ops M K2 lf s → AAnyM P T cp md ops e0 M K X (fr.length + fuel) listed s h
 | [], [], listed, s, _, _, hdc, hB, hc, H => by
  rw [List.length_nil, Nat.zero_add]
  exact hc s hdc H
 | [], _ :: _, _, _, hlen, _, _, _, _, _ => by simp at hlen
 | _ :: _, [], _, _, hlen, _, _, _, _, _ => by simp at hlen
 | i :: fr, o :: lf, listed, s, hlen, hm, hdc, hB, hc, H => by
  have hi : ops[i]? = some o := (hm 0 i rfl).symm
  unfold ordFN at hB
  rw [hi] at hB
  simp only [Bool.and_eq_true, Bool.not_eq_true', Bool.or_eq_true] at hB
  obtain ⟨⟨⟨⟨hr, he, hw⟩, hf⟩, hne⟩, hB⟩ := hB
  have hr : i ∈ Region.ready md ops listed := by simpa using hr
  have hne : i ≠ e0 := by simpa using hne
  obtain ⟨v, hv, H⟩ := H
  rw [List.length_cons, Nat.succ_add]
  exact AAnyM.freeN hne hw hoe hi he _ listed s h hdc (freeB_spec hi hf) hr hv (AAnyM.frn hoe fr lf _ _ (by simpa using hlen) (fun n k e => by simpa using hm (n + 1) k (by simpa using e)) (hdc.step hr) hB hc H)
def ordOkN (cp : Bool) (ops : List Oper) (ord1 fr cs : List Nat) (e0 : Nat) (ord2 : List Nat) : Bool :=
 let A := ops.toArray
 let L0 := Array.replicate ops.length false
 let L1 := lst ord1 L0
 ord1.length + (fr.length + (cs.length + (ord2.length + 1))) == ops.length && ord1.all (fun i => decide (i < ops.length)) && cs.all (fun i => decide (i < ops.length)) && fr.all (fun i => decide (i < ops.length)) && ord2.all (fun i => decide (i < ops.length)) && ordPre cp .any A ord1 L0 && (match ops[e0]? with | some o => effK cp o | none => false) && ordFN cp .any A e0 fr L1 && ordCN cp .any A e0 ord2 cs (lst fr L1)
theorem AWp.drawN {id : Nat} {l : List Oper} {Q : AQ} {sl : List AV} {h : AH} (cp : Bool) (ord1 fr cs : List Nat) (e0 : Nat) (ord2 : List Nat) {oe : Oper} (hm : P.follows .mixedOrders = true) (hB : ordOkN cp l ord1 fr cs e0 ord2 = true) (hoe : l[e0]? = some oe)
  (H : lvc P T cp l.toArray (pick l ord1) sl h (fun s1 h1 => ∃ M : AH → Prop, M h1 ∧ FRN P T l.toArray M (fun s2 => CHN P T cp l.toArray M (oe :: pick l ord2) (fun s h => Q .normal s h) (fun p h => ∀ s, Q (.pan p) s h) (pick l cs) s2 h1) (pick l fr) s1) (fun p h => ∀ s, Q (.pan p) s h)) :
  AWp P T (.region id l.toArray true) Q sl h := by
 simp only [ordOkN, hoe, Bool.and_eq_true, beq_iff_eq] at hB
 obtain ⟨⟨⟨⟨⟨⟨⟨⟨hlen, hall1⟩, hall2⟩, hall3⟩, hall4⟩, hpre⟩, hee⟩, hch⟩, hbb⟩ := hB
 have hlt1 : ∀ i ∈ ord1, i < l.length := fun i hi => by simpa using List.all_eq_true.1 hall1 i hi
 have hlt2 : ∀ i ∈ cs, i < l.length := fun i hi => by simpa using List.all_eq_true.1 hall2 i hi
 have hlt3 : ∀ i ∈ fr, i < l.length := fun i hi => by simpa using List.all_eq_true.1 hall3 i hi
 have hlt4 : ∀ i ∈ ord2, i < l.length := fun i hi => by simpa using List.all_eq_true.1 hall4 i hi
 obtain ⟨p1, p2⟩ := pick_spec hlt1
 obtain ⟨q1, q2⟩ := pick_spec hlt2
 obtain ⟨r1, r2⟩ := pick_spec hlt3
 obtain ⟨z1, z2⟩ := pick_spec hlt4
 have hdc0 : DC .any l.toArray (Array.replicate l.length false) := fun j o _ hj => by
  simp [Array.getElem?_replicate] at hj
  split at hj <;> simp at hj
 refine AWp.of_lift fun G w a S R => wp_region_any hm ?_
 have hany := DW.anyP (P := P) (T := T) (cp := cp) (K := fun s h => Q .normal s h) (X := fun p h => ∀ s, Q (.pan p) s h) (fuel := fr.length + (cs.length + (ord2.length + 1))) ord1 (pick l ord1) (Array.replicate l.length false) sl h p1 (fun n i e => by rw [p2 n i e]; simp) hdc0 hpre
  (DW.monoK (fun s1 h1 ⟨M, hM, hh⟩ => AAnyM.any (M := M) (e0 := e0) _ _ _ _ (AAnyM.frn ⟨oe, by simpa using hoe⟩ fr (pick l fr) _ s1 r1 (fun n c e => by rw [r2 n c e]; simp) (hdc0.lst (cp := cp) ord1 hpre) hch (fun s hdc hs => CHN.any (oe := oe) (l2 := pick l ord2) (by simpa using hoe) hee z1 (fun n c e => by rw [z2 n c e]; simp) cs (pick l cs) _ s h1 q1 (fun n i e => by rw [q2 n i e]; simp) hdc hbb hM hs) hh)) _ _ _ (lvc_ok _ _ _ H))
 rw [hlen] at hany
 have := AAny.wp _ _ _ _ hany G G w.drew a a.defers (Gle.refl G) S.drew R rfl
 simpa using this
theorem AWp.dsN {id : Nat} {l : List Oper} {y : Code} {Q : AQ} {sl : List AV} {h : AH} (cp : Bool) (ord1 fr cs : List Nat) (e0 : Nat) (ord2 : List Nat) {oe : Oper} (hm : P.follows .mixedOrders = true) (hB : ordOkN cp l ord1 fr cs e0 ord2 = true) (hoe : l[e0]? = some oe)
    (H : ∀ K : List AV → AH → Prop, (∀ s h, AWp P T y Q s h → K s h) → lvc P T cp l.toArray (pick l ord1) sl h (fun s1 h1 => ∃ M : AH → Prop, M h1 ∧ FRN P T l.toArray M (fun s2 => CHN P T cp l.toArray M (oe :: pick l ord2) K (fun p h => ∀ s, Q (.pan p) s h) (pick l cs) s2 h1) (pick l fr) s1) (fun p h => ∀ s, Q (.pan p) s h)) :
    AWp P T (.seq (.region id l.toArray true) y) Q sl h := AWp.seq fun K hK => AWp.drawN cp ord1 fr cs e0 ord2 hm hB hoe (H K hK)
end
attribute [go_sem] CHN
end
section
open Go.RowKit
theorem DW.nil {P : Program} {T : Tbl} {cp : Bool} {ops : Array Oper} {K : List AV → AH → Prop} {X : AV → AH → Prop} {sl : List AV} {h : AH} (H : K sl h) : DW P T cp ops [] sl h K X := H
section
variable {P : Program} {T : Tbl} {ops : Array Oper} {K : List AV → AH → Prop} {X : AV → AH → Prop} {o : Oper} {rest : List Oper} {sl : List AV} {h : AH}
theorem VR.sliceG {G : Gh} {k : Nat} {r : List D} {u : Value} (h : VR G (.elt k [r] 0 0) u) (h0 : 0 < r.length) (hm : r.length ≤ maxLen) : ∃ a, u = .pointer (some a) ∧ VD G.frz (.slc 1 (r.map fun x => [x])) (.slice (some a) r.length r.length) := by
 cases h with
 | elt _ _ _ _ b off val r' hr hf hv =>
  have hr : r = r' := by simpa using hr
  subst hr
  refine ⟨⟨b, off + 0, none⟩, rfl, ?_⟩
  have e : (r.map fun x => [x]).length = r.length := by simp
  have := VD.slc (F := G.frz) 1 (r.map fun x => [x]) b off r.length (fun i _ => val i) (by rw [e]; exact h0) (by rw [e]; exact Nat.le_refl _) hm (fun x hx => by
    obtain ⟨y, _, rfl⟩ := List.mem_map.1 hx
    rfl) (fun i r' j x e1 e2 => ?_) (fun i r' j x e1 e2 => ?_)
  ·rw [e] at this
   exact this
  ·rw [List.getElem?_map] at e1
   obtain ⟨y, hy, rfl⟩ := Option.map_eq_some_iff.1 e1
   match j, e2 with
   | 0, e2 =>
    injection e2 with e2
    subst e2
    have := hf i y hy
    simpa using this
   | n + 1, e2 => cases e2
  ·rw [List.getElem?_map] at e1
   obtain ⟨y, hy, rfl⟩ := Option.map_eq_some_iff.1 e1
   match j, e2 with
   | 0, e2 =>
    injection e2 with e2
    subst e2
    exact hv i y hy
   | n + 1, e2 => cases e2
theorem AYv.sliceG {ρ : Operand → AV} {t n e : Nat} {x : Operand} {k : Nat} {r : List D} {i : TypeInfo} (ho : o.op = .slice t x none none none) (hx : ρ x = .elt k [r] 0 0) (hu : P.underlying t = some (.array n e)) (hi : P.info? e = some i) (hn : r.length = n) (h0 : 0 < n) (hm : n ≤ maxLen) : AYv P T o ρ h (.d (.slc 1 (r.map fun x => [x]))) := by
 intro G w a S hv Kc Q hK
 have hvx := hv x (by rw [ho]; simp [Op.operands])
 rw [hx] at hvx
 subst hn
 obtain ⟨ad, hu2, hd⟩ := hvx.sliceG h0 hm
 have hrun : (execOp a.eval o).run P w = .ok (.value (.slice (some ad) r.length r.length)) w := by
  unfold execOp
  simp only [ho]
  have ha : ad.add 0 = ad := by cases ad; simp [Addr.add]
  simp [hu2, Instr.sliceAt, run_underlying hu, Instr.sureAddr, Instr.sliceBounds, run_sizeOf hi, ha, Result.andThen]
 unfold Oper.wp
 rw [hrun]
 exact hK G _ w (Gle.refl G) S (.d hd)
theorem DW.sliceG {cp : Bool} {t n e : Nat} {x : Operand} {k : Nat} {r : List D} {i : TypeInfo} (ho : o.op = .slice t x none none none) (hg : o.guard = none) (hx : ev T sl x = .elt k [r] 0 0) (hu : P.underlying t = some (.array n e)) (hi : P.info? e = some i) (hn : r.length = n) (h0 : 0 < n) (hm : n ≤ maxLen)
  (H : DW P T cp ops rest (putA o.dst (.d (.slc 1 (r.map fun x => [x]))) sl) h K X) : DW P T cp ops (o :: rest) sl h K X := by
 have hy : ∀ h, AYv P T o (ev T sl) h (.d (.slc 1 (r.map fun x => [x]))) := fun h => AYv.sliceG ho hx hu hi hn h0 hm
 unfold DW
 rw [if_neg (by unfold effK; rw [hg, ho]; simp)]
 exact ⟨_, by unfold Yg; rw [hg]; exact hy h, fun _ h' => by unfold Yg; rw [hg]; exact hy h', H⟩
theorem LV.dw1 {pre : List Oper} (H : DW P T false ops [o] sl h (fun s h => LV P T ops pre s h K X) X) : LV P T ops (o :: pre) sl h K X := DW.listB pre [o] sl h H
theorem AWp.drawD {id : Nat} {l : List Oper} {Q : AQ} {sl : List AV} {h : AH} (cp : Bool) (ord : List Nat) (hm : P.follows .mixedOrders = true) (hB : ordOk cp l ord = true)
  (H : DW P T cp l.toArray (pick l ord) sl h (fun s h => Q .normal s h) (fun p h => ∀ s, Q (.pan p) s h)) : AWp P T (.region id l.toArray true) Q sl h := by
 simp only [ordOk, Bool.and_eq_true, beq_iff_eq] at hB
 obtain ⟨⟨hlen, hall⟩, hB⟩ := hB
 have hlt : ∀ i ∈ ord, i < l.length := fun i hi => by simpa using List.all_eq_true.1 hall i hi
 obtain ⟨h1, h2⟩ := pick_spec hlt
 refine AWp.of_lift fun G w a S R => wp_region_any hm ?_
 have hany := DW.any (P := P) (T := T) (K := fun s h => Q .normal s h) (X := fun p h => ∀ s, Q (.pan p) s h) ord (pick l ord) (Array.replicate l.length false) sl h h1 (fun n i e => by rw [h2 n i e]; simp) (fun j o _ hj => by
  simp [Array.getElem?_replicate] at hj
  split at hj <;> simp at hj) hB H
 rw [hlen] at hany
 have := AAny.wp _ _ _ _ hany G G w.drew a a.defers (Gle.refl G) S.drew R rfl
 simpa using this
theorem AWp.dsD {id : Nat} {l : List Oper} {y : Code} {Q : AQ} {sl : List AV} {h : AH} (cp : Bool) (ord : List Nat) (hm : P.follows .mixedOrders = true) (hB : ordOk cp l ord = true)
  (H : ∀ K : List AV → AH → Prop, (∀ s h, AWp P T y Q s h → K s h) → DW P T cp l.toArray (pick l ord) sl h K (fun p h => ∀ s, Q (.pan p) s h)) : AWp P T (.seq (.region id l.toArray true) y) Q sl h :=
 AWp.seq fun K hK => AWp.drawD cp ord hm hB (H K hK)
end
end
section
open Go.RowKit
section
variable {P : Program} {T : Tbl} {cp : Bool} {md : Region.Mode} {ops : Array Oper} {K : List AV → AH → Prop} {X : AV → AH → Prop}
def PAIR (P : Program) (T : Tbl) (cp : Bool) (ops : Array Oper) (ox oy : Oper) (K : List AV → AH → Prop) (X : AV → AH → Prop) (s : List AV) (h : AH) : Prop :=
 ∃ S H, DW P T cp ops [ox, oy] s h (fun a b => a = S ∧ b = H) X ∧ DW P T cp ops [oy, ox] s h (fun a b => a = S ∧ b = H) X ∧ K S H
theorem AAny.pair {x y : Nat} {ox oy : Oper} {listed : Array Bool} {sl : List AV} {h : AH} (hx : ops[x]? = some ox) (hy : ops[y]? = some oy) (ex : effK cp ox = true) (ey : effK cp oy = true) (hdc : DC md ops listed)
  (hr : Region.ready md ops listed = [x, y]) (hxy : x ≠ y) (hbx : ordB cp md ops [y] (listed.setIfInBounds x true) = true) (hby : ordB cp md ops [x] (listed.setIfInBounds y true) = true) (H : PAIR P T cp ops ox oy K X sl h) : AAny P T cp md ops K X 2 listed sl h := by
 obtain ⟨S, H0, h1, h2, hk⟩ := H
 have hK : ∀ s h, s = S ∧ h = H0 → K s h := fun s h e => by rw [e.1, e.2]; exact hk
 have h1 := DW.monoK hK _ _ _ h1
 have h2 := DW.monoK hK _ _ _ h2
 have rx : x ∈ Region.ready md ops listed := by rw [hr]; simp
 have ry : y ∈ Region.ready md ops listed := by rw [hr]; simp
 refine ⟨fun h0 => (by rw [hr] at h0; cases h0), fun i hi => ?_⟩
 rw [hr] at hi
 have hi : i = x ∨ i = y := by simpa using hi
 rcases hi with rfl | rfl
 ·unfold aOp
  rw [hx]
  dsimp only
  rw [if_pos ex]
  unfold DW at h1
  rw [if_pos ex] at h1
  exact h1.monoN fun r h' hN => DW.any [y] [oy] _ _ _ rfl (fun n k e => by
   cases n with
   | zero => simp at e; subst e; rw [hy]; rfl
   | succ n => simp at e) (hdc.step rx) hbx hN
 ·unfold aOp
  rw [hy]
  dsimp only
  rw [if_pos ey]
  unfold DW at h2
  rw [if_pos ey] at h2
  exact h2.monoN fun r h' hN => DW.any [x] [ox] _ _ _ rfl (fun n k e => by
   cases n with
   | zero => simp at e; subst e; rw [hx]; rfl
   | succ n => simp at e) (hdc.step ry) hby hN
def CHQ (P : Program) (T : Tbl) (cp : Bool) (ops : Array Oper) (M : AH → Prop) (lz : List Oper) (ox oy : Oper) (K : List AV → AH → Prop) (X : AV → AH → Prop) : List Oper → List AV → AH → Prop
 | [], s, h => DW P T cp ops lz s h (PAIR P T cp ops ox oy K X) X
 | o :: l, s, h => DW P T cp ops [o] s h (fun s2 h2 => M h2 ∧ CHQ P T cp ops M lz ox oy K X l s2 h2) X
def ordCP (cp : Bool) (md : Region.Mode) (ops : Array Oper) (e0 : Nat) (ord2 : List Nat) (x y : Nat) : List Nat → Array Bool → Bool
 | [], listed =>
  let L1 := listed.setIfInBounds e0 true
  let L2 := lst ord2 L1
  (Region.ready md ops listed == [e0]) && ordPre cp md ops ord2 L1 && (Region.ready md ops L2 == [x, y]) && !(x == y) && ordB cp md ops [y] (L2.setIfInBounds x true) && ordB cp md ops [x] (L2.setIfInBounds y true)
 | i :: r, listed => (Region.ready md ops listed == [i]) && ordCP cp md ops e0 ord2 x y r (listed.setIfInBounds i true)
theorem CHP.any {e0 : Nat} {oe : Oper} {M : AH → Prop} {ord2 : List Nat} {l2 : List Oper} {x y : Nat} {ox oy : Oper} (hoe : ops[e0]? = some oe) (hee : effK cp oe = true) (hl2 : l2.length = ord2.length) (hm2 : ∀ (n i : Nat), ord2[n]? = some i → l2[n]? = ops[i]?) (hx : ops[x]? = some ox) (hy : ops[y]? = some oy) (ex : effK cp ox = true) (ey : effK cp oy = true) : ∀ (ord : List Nat) (l : List Oper) (listed : Array Bool) (sl : List AV) (h : AH), l.length = ord.length → (∀ (n i : Nat), ord[n]? = some i → l[n]? = ops[i]?) → DC md ops listed → ordCP cp md ops e0 ord2 x y ord listed = true → M h →
  CHQ P T cp ops M (oe :: l2) ox oy K X l sl h → AAnyM P T cp md ops e0 M K X (ord.length + (ord2.length + 2 + 1)) listed sl h
 | [], [], listed, sl, h, _, _, hdc, hB, hM, H => by
  unfold ordCP at hB
  simp only [Bool.and_eq_true] at hB
  obtain ⟨⟨⟨⟨⟨hf, hB'⟩, hpx⟩, hpy⟩, hpa⟩, hpb⟩ := hB
  have hone : Region.ready md ops listed = [e0] := by simpa using hf
  have hr : e0 ∈ Region.ready md ops listed := by rw [hone]; exact List.mem_cons_self ..
  rw [List.length_nil, Nat.zero_add]
  refine ⟨fun _ => hM, fun h0 => (by rw [h0] at hr; cases hr), fun j hj => ?_⟩
  rw [hone] at hj
  have hj : j = e0 := by simpa using hj
  subst hj
  unfold aOp
  rw [hoe]
  dsimp only
  rw [if_pos hee]
  have H : DW P T cp ops (oe :: l2) sl h (PAIR P T cp ops ox oy K X) X := H
  unfold DW at H
  rw [if_pos hee] at H
  have hlt : j < listed.size := by
   rcases Nat.lt_or_ge j listed.size with h1 | h1
   ·exact h1
   ·have := (mem_ready.1 hr).1
    simp [Array.getElem?_eq_none h1] at this
  exact H.monoN fun r h' hN => AAny.toM _ _ _ _ (by simp [hlt]) (DW.anyP ord2 l2 _ _ _ hl2 hm2 (hdc.step hr) hB' (DW.monoK (fun s h hp => AAny.pair hx hy ex ey ((hdc.step hr).lst (cp := cp) ord2 hB') (by simpa using hpx) (by simpa using hpy) hpa hpb hp) _ _ _ hN))
 | [], _ :: _, _, _, _, hl, _, _, _, _, _ => by simp at hl
 | _ :: _, [], _, _, _, hl, _, _, _, _, _ => by simp at hl
 | i :: ord, o :: l, listed, sl, h, hl, hmap, hdc, hB, hM, H => by
  have hi : ops[i]? = some o := (hmap 0 i rfl).symm
  unfold ordCP at hB
  simp only [Bool.and_eq_true] at hB
  obtain ⟨hf, hB'⟩ := hB
  have hone : Region.ready md ops listed = [i] := by simpa using hf
  have hr : i ∈ Region.ready md ops listed := by rw [hone]; exact List.mem_cons_self ..
  rw [List.length_cons, Nat.succ_add]
  have next : ∀ (s2 : List AV) (h2 : AH), M h2 ∧ CHQ P T cp ops M (oe :: l2) ox oy K X l s2 h2 → AAnyM P T cp md ops e0 M K X (ord.length + (ord2.length + 2 + 1)) (listed.setIfInBounds i true) s2 h2 := fun s2 h2 hN =>
   CHP.any hoe hee hl2 hm2 hx hy ex ey ord l _ _ _ (by simpa using hl) (fun n k e => by simpa using hmap (n + 1) k (by simpa using e)) (hdc.step hr) hB' hN.1 hN.2
  refine ⟨fun _ => hM, fun h0 => (by rw [h0] at hr; cases hr), fun j hj => ?_⟩
  rw [hone] at hj
  have hj : j = i := by simpa using hj
  subst hj
  have H : DW P T cp ops [o] sl h (fun s2 h2 => M h2 ∧ CHQ P T cp ops M (oe :: l2) ox oy K X l s2 h2) X := H
  unfold DW at H
  unfold aOp
  rw [hi]
  dsimp only
  split
  ·rename_i he
   rw [if_pos he] at H
   refine H.monoN fun r h' hN => ?_
   unfold DW at hN
   exact next _ _ hN
  ·rename_i he
   rw [if_neg he] at H
   obtain ⟨v, g1, g2, g3⟩ := H
   unfold DW at g3
   exact ⟨v, g1, g2, next _ _ g3⟩
def ordOkP (cp : Bool) (ops : List Oper) (ord1 fr cs : List Nat) (e0 : Nat) (ord2 : List Nat) (x y : Nat) : Bool :=
 let A := ops.toArray
 let L0 := Array.replicate ops.length false
 let L1 := lst ord1 L0
 ord1.length + (fr.length + (cs.length + (ord2.length + 2 + 1))) == ops.length && ord1.all (fun i => decide (i < ops.length)) && cs.all (fun i => decide (i < ops.length)) && fr.all (fun i => decide (i < ops.length)) && ord2.all (fun i => decide (i < ops.length)) && ordPre cp .any A ord1 L0 && (match ops[e0]? with | some o => effK cp o | none => false) && ordFN cp .any A e0 fr L1 && ordCP cp .any A e0 ord2 x y cs (lst fr L1) && (match ops[x]?, ops[y]? with | some a, some b => effK cp a && effK cp b | _, _ => false)
theorem AWp.drawP {id : Nat} {l : List Oper} {Q : AQ} {sl : List AV} {h : AH} (cp : Bool) (ord1 fr cs : List Nat) (e0 : Nat) (ord2 : List Nat) (x y : Nat) {oe ox oy : Oper} (hm : P.follows .mixedOrders = true) (hB : ordOkP cp l ord1 fr cs e0 ord2 x y = true) (hoe : l[e0]? = some oe) (hox : l[x]? = some ox) (hoy : l[y]? = some oy)
  (H : lvc P T cp l.toArray (pick l ord1) sl h (fun s1 h1 => ∃ M : AH → Prop, M h1 ∧ FRN P T l.toArray M (fun s2 => CHQ P T cp l.toArray M (oe :: pick l ord2) ox oy (fun s h => Q .normal s h) (fun p h => ∀ s, Q (.pan p) s h) (pick l cs) s2 h1) (pick l fr) s1) (fun p h => ∀ s, Q (.pan p) s h)) :
  AWp P T (.region id l.toArray true) Q sl h := by
 simp only [ordOkP, hoe, hox, hoy, Bool.and_eq_true, beq_iff_eq] at hB
 obtain ⟨⟨⟨⟨⟨⟨⟨⟨⟨hlen, hall1⟩, hall2⟩, hall3⟩, hall4⟩, hpre⟩, hee⟩, hch⟩, hbb⟩, hex, hey⟩ := hB
 have hlt1 : ∀ i ∈ ord1, i < l.length := fun i hi => by simpa using List.all_eq_true.1 hall1 i hi
 have hlt2 : ∀ i ∈ cs, i < l.length := fun i hi => by simpa using List.all_eq_true.1 hall2 i hi
 have hlt3 : ∀ i ∈ fr, i < l.length := fun i hi => by simpa using List.all_eq_true.1 hall3 i hi
 have hlt4 : ∀ i ∈ ord2, i < l.length := fun i hi => by simpa using List.all_eq_true.1 hall4 i hi
 obtain ⟨p1, p2⟩ := pick_spec hlt1
 obtain ⟨q1, q2⟩ := pick_spec hlt2
 obtain ⟨r1, r2⟩ := pick_spec hlt3
 obtain ⟨z1, z2⟩ := pick_spec hlt4
 have hdc0 : DC .any l.toArray (Array.replicate l.length false) := fun j o _ hj => by
  simp [Array.getElem?_replicate] at hj
  split at hj <;> simp at hj
 refine AWp.of_lift fun G w a S R => wp_region_any hm ?_
 have hany := DW.anyP (P := P) (T := T) (cp := cp) (K := fun s h => Q .normal s h) (X := fun p h => ∀ s, Q (.pan p) s h) (fuel := fr.length + (cs.length + (ord2.length + 2 + 1))) ord1 (pick l ord1) (Array.replicate l.length false) sl h p1 (fun n i e => by rw [p2 n i e]; simp) hdc0 hpre
  (DW.monoK (fun s1 h1 ⟨M, hM, hh⟩ => AAnyM.any (M := M) (e0 := e0) _ _ _ _ (AAnyM.frn ⟨oe, by simpa using hoe⟩ fr (pick l fr) _ s1 r1 (fun n c e => by rw [r2 n c e]; simp) (hdc0.lst (cp := cp) ord1 hpre) hch (fun s hdc hs => CHP.any (oe := oe) (l2 := pick l ord2) (by simpa using hoe) hee z1 (fun n c e => by rw [z2 n c e]; simp) (x := x) (y := y) (ox := ox) (oy := oy) (by simpa using hox) (by simpa using hoy) hex hey cs (pick l cs) _ s h1 q1 (fun n i e => by rw [q2 n i e]; simp) hdc hbb hM hs) hh)) _ _ _ (lvc_ok _ _ _ H))
 rw [hlen] at hany
 have := AAny.wp _ _ _ _ hany G G w.drew a a.defers (Gle.refl G) S.drew R rfl
 simpa using this
theorem AWp.dsP {id : Nat} {l : List Oper} {yc : Code} {Q : AQ} {sl : List AV} {h : AH} (cp : Bool) (ord1 fr cs : List Nat) (e0 : Nat) (ord2 : List Nat) (x y : Nat) {oe ox oy : Oper} (hm : P.follows .mixedOrders = true) (hB : ordOkP cp l ord1 fr cs e0 ord2 x y = true) (hoe : l[e0]? = some oe) (hox : l[x]? = some ox) (hoy : l[y]? = some oy)
    (H : ∀ K : List AV → AH → Prop, (∀ s h, AWp P T yc Q s h → K s h) → lvc P T cp l.toArray (pick l ord1) sl h (fun s1 h1 => ∃ M : AH → Prop, M h1 ∧ FRN P T l.toArray M (fun s2 => CHQ P T cp l.toArray M (oe :: pick l ord2) ox oy K (fun p h => ∀ s, Q (.pan p) s h) (pick l cs) s2 h1) (pick l fr) s1) (fun p h => ∀ s, Q (.pan p) s h)) :
    AWp P T (.seq (.region id l.toArray true) yc) Q sl h := AWp.seq fun K hK => AWp.drawP cp ord1 fr cs e0 ord2 x y hm hB hoe hox hoy (H K hK)
theorem AWp.dkP {id : Nat} {l : List Oper} {Q : AQ} {sl : List AV} {h : AH} (cp : Bool) (ord1 fr cs : List Nat) (e0 : Nat) (ord2 : List Nat) (x y : Nat) {oe ox oy : Oper} (hm : P.follows .mixedOrders = true) (hB : ordOkP cp l ord1 fr cs e0 ord2 x y = true) (hoe : l[e0]? = some oe) (hox : l[x]? = some ox) (hoy : l[y]? = some oy)
    (H : ∀ K : List AV → AH → Prop, (∀ s h, Q .normal s h → K s h) → lvc P T cp l.toArray (pick l ord1) sl h (fun s1 h1 => ∃ M : AH → Prop, M h1 ∧ FRN P T l.toArray M (fun s2 => CHQ P T cp l.toArray M (oe :: pick l ord2) ox oy K (fun p h => ∀ s, Q (.pan p) s h) (pick l cs) s2 h1) (pick l fr) s1) (fun p h => ∀ s, Q (.pan p) s h)) :
    AWp P T (.region id l.toArray true) Q sl h := AWp.drawP cp ord1 fr cs e0 ord2 x y hm hB hoe hox hoy (H _ fun _ _ h => h)
theorem AWp.dkN {id : Nat} {l : List Oper} {Q : AQ} {sl : List AV} {h : AH} (cp : Bool) (ord1 fr cs : List Nat) (e0 : Nat) (ord2 : List Nat) {oe : Oper} (hm : P.follows .mixedOrders = true) (hB : ordOkN cp l ord1 fr cs e0 ord2 = true) (hoe : l[e0]? = some oe)
    (H : ∀ K : List AV → AH → Prop, (∀ s h, Q .normal s h → K s h) → lvc P T cp l.toArray (pick l ord1) sl h (fun s1 h1 => ∃ M : AH → Prop, M h1 ∧ FRN P T l.toArray M (fun s2 => CHN P T cp l.toArray M (oe :: pick l ord2) K (fun p h => ∀ s, Q (.pan p) s h) (pick l cs) s2 h1) (pick l fr) s1) (fun p h => ∀ s, Q (.pan p) s h)) :
    AWp P T (.region id l.toArray true) Q sl h := AWp.drawN cp ord1 fr cs e0 ord2 hm hB hoe (H _ fun _ _ h => h)
end
attribute [go_sem] CHQ
end
section
open Go.RowKit
section
variable {P : Program} {T : Tbl} {cp : Bool} {md : Region.Mode} {ops : Array Oper} {K : List AV → AH → Prop} {X : AV → AH → Prop}
theorem AWp.drawPA {id : Nat} {l : List Oper} {Q : AQ} {sl : List AV} {h : AH} (ks : List (Nat × AV)) (hag : AgK ks sl) (hok : agOk ks l = true) (cp : Bool) (ord1 fr cs : List Nat) (e0 : Nat) (ord2 : List Nat) (x y : Nat) {oe ox oy : Oper} (hm : P.follows .mixedOrders = true) (hB : ordOkP cp l ord1 fr cs e0 ord2 x y = true) (hoe : l[e0]? = some oe) (hox : l[x]? = some ox) (hoy : l[y]? = some oy)
  (H : lvc P T cp l.toArray (pick l ord1) sl h (fun s1 h1 => ∃ M : AH → Prop, M h1 ∧ FRN P T l.toArray M (fun s2 => CHQ P T cp l.toArray M (oe :: pick l ord2) ox oy (fun s h => Q .normal s h) (fun p h => ∀ s, AgK ks s → Q (.pan p) s h) (pick l cs) s2 h1) (pick l fr) s1) (fun p h => ∀ s, AgK ks s → Q (.pan p) s h)) :
  AWp P T (.region id l.toArray true) Q sl h := by
 simp only [ordOkP, hoe, hox, hoy, Bool.and_eq_true, beq_iff_eq] at hB
 obtain ⟨⟨⟨⟨⟨⟨⟨⟨⟨hlen, hall1⟩, hall2⟩, hall3⟩, hall4⟩, hpre⟩, hee⟩, hch⟩, hbb⟩, hex, hey⟩ := hB
 have hlt1 : ∀ i ∈ ord1, i < l.length := fun i hi => by simpa using List.all_eq_true.1 hall1 i hi
 have hlt2 : ∀ i ∈ cs, i < l.length := fun i hi => by simpa using List.all_eq_true.1 hall2 i hi
 have hlt3 : ∀ i ∈ fr, i < l.length := fun i hi => by simpa using List.all_eq_true.1 hall3 i hi
 have hlt4 : ∀ i ∈ ord2, i < l.length := fun i hi => by simpa using List.all_eq_true.1 hall4 i hi
 obtain ⟨p1, p2⟩ := pick_spec hlt1
 obtain ⟨q1, q2⟩ := pick_spec hlt2
 obtain ⟨r1, r2⟩ := pick_spec hlt3
 obtain ⟨z1, z2⟩ := pick_spec hlt4
 have hdc0 : DC .any l.toArray (Array.replicate l.length false) := fun j o _ hj => by
  simp [Array.getElem?_replicate] at hj
  split at hj <;> simp at hj
 refine AWp.of_liftA ks fun G w a S R => wp_region_any hm ?_
 have hany := DW.anyP (P := P) (T := T) (cp := cp) (K := fun s h => Q .normal s h) (X := fun p h => ∀ s, AgK ks s → Q (.pan p) s h) (fuel := fr.length + (cs.length + (ord2.length + 2 + 1))) ord1 (pick l ord1) (Array.replicate l.length false) sl h p1 (fun n i e => by rw [p2 n i e]; simp) hdc0 hpre
  (DW.monoK (fun s1 h1 ⟨M, hM, hh⟩ => AAnyM.any (M := M) (e0 := e0) _ _ _ _ (AAnyM.frn ⟨oe, by simpa using hoe⟩ fr (pick l fr) _ s1 r1 (fun n c e => by rw [r2 n c e]; simp) (hdc0.lst (cp := cp) ord1 hpre) hch (fun s hdc hs => CHP.any (oe := oe) (l2 := pick l ord2) (by simpa using hoe) hee z1 (fun n c e => by rw [z2 n c e]; simp) (x := x) (y := y) (ox := ox) (oy := oy) (by simpa using hox) (by simpa using hoy) hex hey cs (pick l cs) _ s h1 q1 (fun n i e => by rw [q2 n i e]; simp) hdc hbb hM hs) hh)) _ _ _ (lvc_ok _ _ _ H))
 rw [hlen] at hany
 have := AAny.wpA (ops := l.toArray) (by simpa using hok) _ _ _ _ hag hany G G w.drew a a.defers (Gle.refl G) S.drew R rfl
 simpa using this
theorem AWp.dkPA {id : Nat} {l : List Oper} {Q : AQ} {sl : List AV} {h : AH} (ks : List (Nat × AV)) (hag : AgK ks sl) (hok : agOk ks l = true) (cp : Bool) (ord1 fr cs : List Nat) (e0 : Nat) (ord2 : List Nat) (x y : Nat) {oe ox oy : Oper} (hm : P.follows .mixedOrders = true) (hB : ordOkP cp l ord1 fr cs e0 ord2 x y = true) (hoe : l[e0]? = some oe) (hox : l[x]? = some ox) (hoy : l[y]? = some oy)
    (H : ∀ K : List AV → AH → Prop, (∀ s h, Q .normal s h → K s h) → lvc P T cp l.toArray (pick l ord1) sl h (fun s1 h1 => ∃ M : AH → Prop, M h1 ∧ FRN P T l.toArray M (fun s2 => CHQ P T cp l.toArray M (oe :: pick l ord2) ox oy K (fun p h => ∀ s, AgK ks s → Q (.pan p) s h) (pick l cs) s2 h1) (pick l fr) s1) (fun p h => ∀ s, AgK ks s → Q (.pan p) s h)) :
    AWp P T (.region id l.toArray true) Q sl h := AWp.drawPA ks hag hok cp ord1 fr cs e0 ord2 x y hm hB hoe hox hoy (H _ fun _ _ h => h)
end
end
section
open Go.RowKit
theorem ba_ext {t : ByteArray} {s : List UInt8} (h : t.data.toList = s) : t = ⟨s.toArray⟩ := by
 subst h; simp
theorem ba_inj {a b : List UInt8} (h : (⟨a.toArray⟩ : ByteArray) = ⟨b.toArray⟩) : a = b := by
 injection h with h
 have := congrArg Array.toList h
 simpa using this
theorem ba_beq (a b : List UInt8) : ((⟨a.toArray⟩ : ByteArray) == ⟨b.toArray⟩) = decide (a = b) := by
 have h := MapKept.bytes_beq ⟨a.toArray⟩ ⟨b.toArray⟩
 by_cases hab : a = b
 ·rw [decide_eq_true hab]; exact h.2 (by rw [hab])
 ·rw [decide_eq_false hab]
  cases h2 : ((⟨a.toArray⟩ : ByteArray) == ⟨b.toArray⟩) with
  | false => rfl
  | true => exact absurd (ba_inj (h.1 h2)) hab
theorem findNow_no {s : List UInt8} : ∀ {es : List MapEntry} {ks : List (List UInt8)} (i : Nat), es.map (fun e => (e.key, e.val)) = ks.map (fun s => (Value.string ⟨s.toArray⟩, Value.agg #[])) → ¬ s ∈ ks → Instr.findNow .string (.string ⟨s.toArray⟩) es i = some none
 | [], _, i, _, _ => rfl
 | e :: es, [], i, h, _ => by simp at h
 | e :: es, k :: ks, i, h, hn => by
  simp only [List.map_cons, List.cons.injEq, Prod.mk.injEq] at h
  simp only [Instr.findNow, h.1.1, Instr.sameNow, ba_beq]
  rw [decide_eq_false (fun e => hn (by rw [e]; exact List.mem_cons_self ..))]
  exact findNow_no (i + 1) h.2 fun h9 => hn (List.mem_cons_of_mem _ h9)
theorem findNow_yes {s : List UInt8} : ∀ {es : List MapEntry} {ks : List (List UInt8)} (i : Nat), es.map (fun e => (e.key, e.val)) = ks.map (fun s => (Value.string ⟨s.toArray⟩, Value.agg #[])) → s ∈ ks → ∃ j, Instr.findNow .string (.string ⟨s.toArray⟩) es i = some (some (i + j, .agg #[])) ∧ j < es.length ∧ ks[j]? = some s
 | [], [], i, h, hn => by cases hn
 | [], k :: ks, i, h, hn => by simp at h
 | e :: es, [], i, h, _ => by simp at h
 | e :: es, k :: ks, i, h, hn => by
  simp only [List.map_cons, List.cons.injEq, Prod.mk.injEq] at h
  by_cases hk : s = k
  ·refine ⟨0, ?_, by simp, by simp [hk]⟩
   simp only [Instr.findNow, h.1.1, Instr.sameNow, ba_beq, h.1.2]
   rw [decide_eq_true hk]; rfl
  ·obtain ⟨j, h1, h2, h3⟩ := findNow_yes (i + 1) h.2 ((List.mem_cons.1 hn).resolve_left hk)
   refine ⟨j + 1, ?_, by simp; omega, by simpa using h3⟩
   simp only [Instr.findNow, h.1.1, Instr.sameNow, ba_beq]
   rw [decide_eq_false hk]
   show Instr.findNow _ _ es (i + 1) = _
   rw [h1]; congr 3; omega
section
variable {G : Gh} {P : Program} {T : Tbl} {cp : Bool} {ops : Array Oper} {K : List AV → AH → Prop} {X : AV → AH → Prop} {o : Oper} {rest : List Oper} {sl : List AV} {h : AH}
theorem run_lookup {w : World} {ty kt et r clock : Nat} {es : Array MapEntry} {ks : List (List UInt8)} {s : List UInt8} (hty : P.underlying ty = some (.map kt et)) (hk : P.underlying kt = some .string) (hz : (zeroValue et).run P w = .ok (.agg #[]) w) (hb : w.heap[r]? = some (.map es clock)) (hm : MapR es ks) :
  (Instr.lookup ty (.map (some r)) (.string ⟨s.toArray⟩) true).run P w = .ok (.tuple #[.agg #[], .bool (decide (s ∈ ks))]) w := by
 have hc := MapKept.run_checkKey (w := w) (k := .string ⟨s.toArray⟩) hk trivial es.isEmpty 9999
 by_cases hs : s ∈ ks
 ·obtain ⟨j, h1, _, _⟩ := findNow_yes (s := s) 0 hm hs
  rw [Nat.zero_add] at h1
  have hf := MapKept.run_findKey (w := w) hk h1
  simp [Instr.lookup, run_underlying hty, MapKept.run_getObj_map hb, hc, hf, hs, Result.andThen]
 ·have h1 := findNow_no (s := s) 0 hm hs
  have hf := MapKept.run_findKey (w := w) hk h1
  simp [Instr.lookup, run_underlying hty, MapKept.run_getObj_map hb, hc, hf, hs, hz, Result.andThen]
def addK (s : List UInt8) (ks : List (List UInt8)) : List (List UInt8) := if s ∈ ks then ks else ks ++ [s]
theorem run_upd {w : World} {ty kt et r clock : Nat} {es : Array MapEntry} {ks : List (List UInt8)} {s : List UInt8} (hty : P.underlying ty = some (.map kt et)) (hk : P.underlying kt = some .string) (hb : w.heap[r]? = some (.map es clock)) (hm : MapR es ks) :
  ∃ es' clock', (Instr.mapUpdate ty (.map (some r)) (.string ⟨s.toArray⟩) (.agg #[])).run P w = .ok () { w with heap := w.heap.setIfInBounds r (.map es' clock') } ∧ MapR es' (addK s ks) := by
 have hc := MapKept.run_checkKey (w := w) (k := .string ⟨s.toArray⟩) hk trivial false 9999
 by_cases hs : s ∈ ks
 ·obtain ⟨j, h1, h2, h3⟩ := findNow_yes (s := s) 0 hm hs
  rw [Nat.zero_add] at h1
  have hf := MapKept.run_findKey (w := w) hk h1
  have hjl : j < es.size := by simpa using h2
  have hj : es[j]? = some es[j] := Array.getElem?_eq_getElem hjl
  have hkv : (es[j].key, es[j].val) = (Value.string ⟨s.toArray⟩, Value.agg #[]) := by
   have h4 := congrArg (fun l => l[j]?) hm
   simp only [List.getElem?_map, h3, Option.map_some] at h4
   rw [show es.toList[j]? = some es[j] from by simp [hjl]] at h4
   simpa using h4
  obtain ⟨hkk, hvv⟩ := Prod.mk.injEq .. ▸ hkv
  refine ⟨es.modify j (fun e' => { e' with key := .string ⟨s.toArray⟩, val := .agg #[] }), clock, ?_, ?_⟩
  ·simp [Instr.mapUpdate, run_underlying hty, MapKept.run_getObj_map hb, hc, hf, hj, hkk, MapKept.run_keyThatStays (d := .string) (k := .string ⟨s.toArray⟩) trivial, MapKept.run_setObj_map _ hb, Result.andThen]
  ·rw [addK, if_pos hs]
   unfold MapR at hm ⊢
   rw [← hm]
   apply List.ext_getElem?
   intro i
   simp only [List.getElem?_map, Array.getElem?_toList, Array.getElem?_modify]
   split
   ·rename_i hij
    subst hij
    rw [hj]
    simp [hkk, hvv]
   ·rfl
 ·have h1 := findNow_no (s := s) 0 hm hs
  have hf := MapKept.run_findKey (w := w) hk h1
  refine ⟨es.push ⟨.string ⟨s.toArray⟩, .agg #[], clock⟩, clock + 1, ?_, ?_⟩
  ·simp [Instr.mapUpdate, run_underlying hty, MapKept.run_getObj_map hb, hc, hf, MapKept.run_setObj_map _ hb, Result.andThen]
  ·rw [addK, if_neg hs]
   unfold MapR at hm ⊢
   rw [Array.toList_push, List.map_append, hm]
   simp
theorem pair_or {α : Type} {R : α → α → Prop} : ∀ {l : List α}, l.Pairwise R → ∀ {a b : α}, a ∈ l → b ∈ l → a ≠ b → R a b ∨ R b a
 | x :: l, hp, a, b, ha, hb, hn => by
  have hp' := List.pairwise_cons.1 hp
  rcases List.mem_cons.1 ha with h1 | h1
  ·rcases List.mem_cons.1 hb with h2 | h2
   ·exact absurd (h1.trans h2.symm) hn
   ·exact .inl (h1 ▸ hp'.1 b h2)
  ·rcases List.mem_cons.1 hb with h2 | h2
   ·exact .inr (h2 ▸ hp'.1 a h1)
   ·exact pair_or hp'.2 h1 h2 hn
def mpG (G : Gh) (r : Nat) (ks : List (List UInt8)) : Gh := { G with tok := fun t => if t = G.nt then some (0, mpT r ks) else G.tok t, nt := G.nt + 1 }
theorem mpG_tok (G : Gh) (r : Nat) (ks : List (List UInt8)) : (mpG G r ks).tok G.nt = some (0, mpT r ks) := if_pos rfl
theorem Sim.mpLe {w : World} (S : Sim T G h w) (r : Nat) (ks : List (List UInt8)) : Gle G (mpG G r ks) :=
 ⟨rfl, fun _ _ _ e => e, fun _ _ _ e => .inl e, fun t x e => by
  show (if t = G.nt then _ else _) = _
  rw [if_neg (fun e' => by rw [S.fin t (by omega)] at e; cases e)]
  exact e⟩
theorem Sim.mpFin {w : World} (S : Sim T G h w) (r : Nat) (ks : List (List UInt8)) : ∀ t, (mpG G r ks).nt ≤ t → (mpG G r ks).tok t = none := fun t ht => by
 show (if t = G.nt then _ else _) = _
 have ht' : G.nt + 1 ≤ t := ht
 rw [if_neg (by omega)]
 exact S.fin t (by omega)
theorem Sim.ntLive {w : World} (S : Sim T G h w) : ∀ t ∈ h.live, t ≠ G.nt := fun t ht e => by
 obtain ⟨_, e2⟩ := (S.liv _ ht).any
 rw [e, S.fin _ (Nat.le_refl _)] at e2
 cases e2
theorem Sim.updMp {w w' : World} (S : Sim T G h w) {t0 r : Nat} {ks ks' : List (List UInt8)} (ht0 : t0 ∈ h.live) (htok : G.tok t0 = some (0, mpT r ks)) (hw : Wrote r w w') (hm : ∃ es clock, w'.heap[r]? = some (.map es clock) ∧ MapR es ks') :
  Gle G (mpG G r ks') ∧ Sim T (mpG G r ks') ⟨h.objs, replT t0 G.nt h.live⟩ w' ∧ freshT G.nt h.live := by
 have hG := S.mpLe r ks'
 have hT := S.liv t0 ht0
 obtain ⟨r2, ks2, e2, hbase, hfz, _⟩ := hT.mp _ htok
 obtain ⟨rfl, rfl⟩ := mpT_inj e2
 have hblk0 : tokBlk G t0 = some r := tokBlk_mp htok
 have hne : h.live.Pairwise fun a b => a ≠ b := S.lnd
 have hro : r ∉ h.objs.map Prod.fst := S.todis t0 ht0 r hblk0
 have hrt : ∀ t ∈ h.live, t ≠ t0 → tokBlk G t ≠ some r := fun t ht htn e => by
  rcases pair_or S.tdis ht ht0 htn with h1 | h1
  ·exact h1 r e hblk0
  ·exact h1 r hblk0 e
 have hblk : ∀ t ∈ h.live, tokBlk (mpG G r ks') t = tokBlk G t := fun t ht => tokBlk_mono hG (S.liv t ht)
 have hnewblk : tokBlk (mpG G r ks') G.nt = some r := tokBlk_mp (mpG_tok G r ks')
 refine ⟨hG, ⟨S.below.trans (hw.below hbase), fun g j x hx => ?_, fun b' o u e => ?_, S.mpFin r ks', fun p hp => ?_, S.nd, fun t ht => ?_, ?_, fun t ht g hg => ?_, ?_⟩, fresh_tok fun x hx => S.ntLive x hx⟩
 ·obtain ⟨u, h1, h2⟩ := S.glob g j x hx
  exact ⟨u, h1, h2.mono fun _ _ _ e => e⟩
 ·have e' : G.frz b' o = some u := e
  by_cases hbb : b' = r
  ·subst hbb; rw [hfz o] at e'; cases e'
  ·rw [hw.cell hbb]; exact S.frz b' o u e'
 ·have hO := S.obj p hp
  have hpb : p.1 ≠ r := fun e => hro (by rw [← e]; exact List.mem_map_of_mem hp)
  exact (hO.mono hG fun o ho => ho).world (hw.block _ hpb)
 ·rcases replT_mem hne ht with rfl | ⟨ht, htne⟩
  ·exact .ofMp (mpG_tok G r ks') hbase hfz hm
  ·have hL := S.liv t ht
   exact (hL.mono hG fun g hg o ho => ho).world fun g hg => by
    rw [hblk t ht] at hg
    exact hw.block g fun e => hrt t ht htne (by rw [← e]; exact hg)
 ·refine replT_pair (S.tdis.imp_of_mem fun {a b'} ha hb' hd g h1 h2 => hd g (by rw [← hblk a ha]; exact h1) (by rw [← hblk b' hb']; exact h2)) (fun x hx hxt => ⟨fun g h1 h2 => ?_, fun g h1 h2 => ?_⟩) hne
  ·rw [hnewblk] at h2; injection h2 with h2; subst h2
   rw [hblk x hx] at h1
   exact hrt x hx hxt h1
  ·rw [hnewblk] at h1; injection h1 with h1; subst h1
   rw [hblk x hx] at h2
   exact hrt x hx hxt h2
 ·rcases replT_mem hne ht with rfl | ⟨ht, _⟩
  ·rw [hnewblk] at hg; injection hg with hg; subst hg
   exact hro
  ·rw [hblk t ht] at hg
   exact S.todis t ht g hg
 ·exact replT_pair hne (fun x hx hxt => ⟨fun e => S.ntLive x hx e, fun e => S.ntLive x hx e.symm⟩) hne
theorem Sim.newMp {w : World} (S : Sim T G h w) : Gle G (mpG G w.heap.size []) ∧ Sim T (mpG G w.heap.size []) ⟨h.objs, G.nt :: h.live⟩ (w.alloc (.map #[] 0)) ∧ freshT G.nt h.live := by
 have hG := S.mpLe w.heap.size []
 obtain ⟨ha1, ha2⟩ := MapKept.heap_alloc w (.map #[] 0)
 have S1 : Sim T (mpG G w.heap.size []) h (w.alloc (.map #[] 0)) := S.grow ((Below.refl w.heap.size w).alloc (Nat.le_refl _) _) hG (S.mpFin _ _) (fun _ _ _ e => .inl e) fun b o u e => by
  have := S.frz b o u e
  rw [← this]
  exact World.cell?_of_block (w := w) (a := ⟨b, o, none⟩) (ha2 b (S.frzlt e))
 have hnew : tokBlk (mpG G w.heap.size []) G.nt = some w.heap.size := tokBlk_mp (mpG_tok _ _ _)
 have hlt : ∀ t ∈ h.live, ∀ g, tokBlk (mpG G w.heap.size []) t = some g → g < w.heap.size := fun t ht g hg => by
  rw [tokBlk_mono hG (S.liv t ht)] at hg
  exact (S.liv t ht).lt hg
 refine ⟨hG, ⟨S1.below, S1.glob, S1.frz, S1.fin, S1.obj, S1.nd, fun t ht => ?_, List.pairwise_cons.2 ⟨fun t ht g h1 h2 => ?_, S1.tdis⟩, fun t ht g hg => ?_, List.nodup_cons.2 ⟨fun hm => S.ntLive _ hm rfl, S.lnd⟩⟩, fresh_tok fun x hx => S.ntLive x hx⟩
 ·rcases List.mem_cons.1 ht with rfl | ht
  ·refine .ofMp (mpG_tok _ _ _) S.below.size (fun o => ?_) ⟨#[], 0, ha1, rfl⟩
   cases hf : G.frz w.heap.size o with
   | none => exact hf
   | some u => exact absurd (S.frzlt hf) (Nat.lt_irrefl _)
  ·exact S1.liv t ht
 ·rw [hnew] at h1
  injection h1 with h1
  have := hlt t ht g h2
  omega
 ·rcases List.mem_cons.1 ht with rfl | ht
  ·rw [hnew] at hg
   injection hg with hg
   subst hg
   intro hm
   obtain ⟨p, hp, e⟩ := List.mem_map.1 hm
   have := (S.obj p hp).lt
   omega
  ·exact S1.todis t ht g hg
theorem DW.mkMap {t : Nat} (ho : o.op = .makeMap t none) (hg : o.guard = none) (kk : ∀ tk, freshT tk h.live → lvc P T cp ops rest (putA o.dst (.mp tk []) sl) ⟨h.objs, tk :: h.live⟩ K X) : DW P T cp ops (o :: rest) sl h K X := by
 have he : effK cp o = true := by unfold effK; rw [hg, ho]
 unfold DW
 rw [if_pos he]
 refine ⟨hg, fun G w a S hv Kc Q hK _ => ?_⟩
 have hrun : (execOp a.eval o).run P w = .ok (.value (.map (some w.heap.size))) (w.alloc (.map #[] 0)) := by
  unfold execOp
  simp only [ho]
  simp [Instr.makeMap, newObj, Sem.run]
 unfold Oper.wp
 rw [hrun]
 obtain ⟨hG, S', hf⟩ := S.newMp
 exact hK _ _ _ _ _ (lvc_ok _ _ _ (kk G.nt hf)) hG S' (.mp (mpG_tok _ _ _))
theorem Wrote.rfl' (b : Nat) (w : World) : Wrote b w w := ⟨rfl, rfl, rfl, rfl, fun _ _ => rfl⟩
theorem Sim.relab {w : World} (S : Sim T G h w) {b i j t t' rr : Nat} {ks ks' : List (List UInt8)} {ob : Ob} {r : List AV} (hg : getO b h.objs = some ob) (hr : ob.rows[i]? = some r) (hj : r[j]? = some (.mp t ks)) (ht : G.tok t = some (0, mpT rr ks)) (ht' : G.tok t' = some (0, mpT rr ks')) :
  Sim T G ⟨setO b ⟨ob.k, ob.c, ob.rows.set i (r.set j (.mp t' ks'))⟩ h.objs, h.live⟩ w := by
 refine S.write hg (Wrote.rfl' b w) (fun _ _ _ => rfl) ?_
 have hO := S.obj _ (getO_mem hg)
 obtain ⟨vs, e, fz, h1, h2, h3, h4⟩ := hO.mem
 have hil : i < ob.rows.length := (List.getElem?_eq_some_iff.1 hr).1
 have key : ∀ (i' : Nat) (r' : List AV), (ob.rows.set i (r.set j (.mp t' ks')))[i']? = some r' → ∃ r0, ob.rows[i']? = some r0 ∧ r'.length = r0.length ∧ ∀ (j' : Nat) (a : AV), r'[j']? = some a → r0[j']? = some a ∨ (i' = i ∧ j' = j ∧ a = .mp t' ks') := by
  intro i' r' e'
  rw [List.getElem?_set] at e'
  split at e'
  ·rename_i hii
   subst hii
   injection e' with e'
   subst e'
   refine ⟨r, hr, by simp, fun j' a ha => ?_⟩
   rw [List.getElem?_set] at ha
   split at ha
   ·rename_i hjj
    split at ha
    ·injection ha with ha; exact .inr ⟨rfl, hjj.symm, ha.symm⟩
    ·cases ha
   ·exact .inl ha
  ·exact ⟨r', e', rfl, fun j' a ha => .inl ha⟩
 refine ⟨hO.low, fun i' r' j' e' hj' => ?_, fun o' ho' => hO.rest o' (by simpa using ho'), fun r' hr' => ?_, by simpa using hO.fits, hO.cmax, vs, e, fz, h1, h2, h3, fun i' r' j' a e1 e2 => ?_⟩
 ·obtain ⟨r0, g1, g2, _⟩ := key i' r' e'
  exact hO.free i' r0 j' g1 (by omega)
 ·obtain ⟨i', hi'⟩ := List.mem_iff_getElem?.1 hr'
  obtain ⟨r0, g1, g2, _⟩ := key i' r' hi'
  rcases hO.lenk r0 (List.mem_of_getElem? g1) with g3 | g3
  ·exact .inl (g2.trans g3)
  ·exact .inr (List.eq_nil_of_length_eq_zero (by rw [g2, g3]; rfl))
 ·obtain ⟨r0, g1, g2, g3⟩ := key i' r' e1
  rcases g3 j' a e2 with g4 | ⟨rfl, rfl, rfl⟩
  ·exact h4 i' r0 j' a g1 g4
  ·rw [hr] at g1
   injection g1 with g1
   subst g1
   obtain ⟨_, v, hv1, hv2⟩ := h4 i' r j' _ hr hj
   refine ⟨rfl, v, hv1, ?_⟩
   cases hv2 with
   | mp ht2 =>
    rw [ht] at ht2
    injection ht2 with ht2
    injection ht2 with _ ht2
    obtain ⟨rfl, _⟩ := mpT_inj ht2
    exact .mp ht'
theorem DW.mapUpd {ty kt et b i j t : Nat} {m x v : Operand} {ks : List (List UInt8)} {s : List UInt8} {ob : Ob} {r : List AV} (ho : o.op = .mapUpdate ty m x v) (hg : o.guard = none) (hty : P.underlying ty = some (.map kt et)) (hk : P.underlying kt = some .string)
  (hm : ev T sl m = .mp t ks) (hx : ev T sl x = .d (.str s)) (hv : ev T sl v = .agg []) (hl : h.live.contains t = true) (hob : getO b h.objs = some ob) (hr : ob.rows[i]? = some r) (hj : r[j]? = some (.mp t ks))
  (kk : ∀ t', freshT t' h.live → lvc P T cp ops rest (putA o.dst .undef sl) ⟨setO b ⟨ob.k, ob.c, ob.rows.set i (r.set j (.mp t' (addK s ks)))⟩ h.objs, replT t t' h.live⟩ K X) : DW P T cp ops (o :: rest) sl h K X := by
 have he : effK cp o = true := by unfold effK; rw [hg, ho]
 unfold DW
 rw [if_pos he]
 refine ⟨hg, fun G w a S hvs Kc Q hK _ => ?_⟩
 have h1 := hvs m (by simp [ho, Op.operands])
 have h2 := hvs x (by simp [ho, Op.operands])
 have h3 := hvs v (by simp [ho, Op.operands])
 rw [hm] at h1
 rw [hx] at h2
 rw [hv] at h3
 have ht0 : t ∈ h.live := by simpa using hl
 generalize hem : a.eval m = vm at h1
 generalize hex : a.eval x = vx at h2
 generalize hev : a.eval v = vv at h3
 cases h1 with
 | mp htok =>
  rename_i rr
  cases h2 with
  | d h2 =>
   obtain ⟨tx, rfl, etx, _⟩ := h2.str_inv
   obtain rfl := ba_ext etx
   cases h3 with
   | agg _ vs hl0 _ =>
    have hvs0 : vs = [] := List.eq_nil_of_length_eq_zero hl0
    subst hvs0
    obtain ⟨r2, ks2, e2, _, _, es, clock, hheap, hmr⟩ := (S.liv t ht0).mp _ htok
    obtain ⟨rfl, rfl⟩ := mpT_inj e2
    obtain ⟨es', clock', hrun0, hmr'⟩ := run_upd (P := P) (s := s) hty hk hheap hmr
    have hset := MapKept.heap_set (o' := .map es' clock') hheap
    have hw : Wrote rr w { w with heap := w.heap.setIfInBounds rr (.map es' clock') } := ⟨rfl, rfl, rfl, by simp, fun b' hb' => hset.2 b' hb'⟩
    have hrun : (execOp a.eval o).run P w = .ok .skip { w with heap := w.heap.setIfInBounds rr (.map es' clock') } := by
     unfold execOp
     simp only [ho, hem, hex, hev]
     simp [hrun0, Result.andThen]
    obtain ⟨hG, S', hf⟩ := S.updMp ht0 htok hw ⟨es', clock', hset.1, hmr'⟩
    have S2 := S'.relab hob hr hj (hG.tok _ _ htok) (mpG_tok G rr (addK s ks))
    unfold Oper.wp
    rw [hrun]
    exact hK .undef _ (mpG G rr (addK s ks)) Go.undef _ (lvc_ok _ _ _ (kk G.nt hf)) hG S2 .undef
theorem DW.lookM {ty kt et t : Nat} {m x : Operand} {ks : List (List UInt8)} {s : List UInt8} (ho : o.op = .lookup ty m x true) (hg : o.guard = none) (hty : P.underlying ty = some (.map kt et)) (hk : P.underlying kt = some .string) (hz : ∀ w : World, (zeroValue et).run P w = .ok (.agg #[]) w)
  (hm : ev T sl m = .mp t ks) (hx : ev T sl x = .d (.str s)) (hl : h.live.contains t = true) (kk : lvc P T cp ops rest (putA o.dst (.tup [.agg [], .d (.bool (decide (s ∈ ks)))]) sl) h K X) : DW P T cp ops (o :: rest) sl h K X := by
 have he : effK cp o = false := by unfold effK; rw [hg, ho]
 unfold DW
 rw [if_neg (by rw [he]; decide)]
 refine ⟨.tup [.agg [], .d (.bool (decide (s ∈ ks)))], ?_, fun h9 => ?_, lvc_ok _ _ _ kk⟩
 ·unfold Yg
  rw [hg]
  intro G w a S hvs Kc Q hK
  have h1 := hvs m (by simp [ho, Op.operands])
  have h2 := hvs x (by simp [ho, Op.operands])
  rw [hm] at h1
  rw [hx] at h2
  have ht0 : t ∈ h.live := by simpa using hl
  generalize hem : a.eval m = vm at h1
  generalize hex : a.eval x = vx at h2
  cases h1 with
  | mp htok =>
   cases h2 with
   | d h2 =>
    obtain ⟨tx, rfl, etx, _⟩ := h2.str_inv
    obtain rfl := ba_ext etx
    obtain ⟨r2, ks2, e2, _, _, es, clock, hheap, hmr⟩ := (S.liv t ht0).mp _ htok
    obtain ⟨rfl, rfl⟩ := mpT_inj e2
    have hrun0 := run_lookup (P := P) (s := s) hty hk (hz w) hheap hmr
    have hrun : (execOp a.eval o).run P w = .ok (.value (.tuple #[.agg #[], .bool (decide (s ∈ ks))])) w := by
     unfold execOp
     simp only [ho, hem, hex]
     simp [hrun0, Result.andThen]
    unfold Oper.wp
    rw [hrun]
    refine hK G _ w (Gle.refl G) S (.tup _ [.agg #[], .bool (decide (s ∈ ks))] rfl fun i a v e1 e2 => ?_)
    match i, e1, e2 with
    | 0, e1, e2 =>
     simp at e1 e2
     subst e1; subst e2
     exact .agg [] [] rfl fun i a v e1 e2 => by simp at e1
    | 1, e1, e2 =>
     simp at e1 e2
     subst e1; subst e2
     exact .d (.bool _)
    | i + 2, e1, e2 => simp at e1
 ·unfold hiK at h9
  rw [ho] at h9
  cases h9
theorem DW.store0 {ty b k i off : Nat} {ad x : Operand} (ho : o.op = .store ty ad x) (hg : o.guard = none) (hsz : ∀ w : World, (sizeOf ty).run P w = .ok 0 w) (ha : ev T sl ad = .ptr b k i off) (hx : ev T sl x = .agg [])
  (kk : lvc P T cp ops rest (putA o.dst .undef sl) h K X) : DW P T cp ops (o :: rest) sl h K X := by
 have he : effK cp o = true := by unfold effK; rw [hg, ho]
 unfold DW
 rw [if_pos he]
 refine ⟨hg, fun G w a S hvs Kc Q hK _ => ?_⟩
 have h1 := hvs ad (by simp [ho, Op.operands])
 have h2 := hvs x (by simp [ho, Op.operands])
 rw [ha] at h1
 rw [hx] at h2
 generalize hea : a.eval ad = va at h1
 generalize hex : a.eval x = vx at h2
 cases h1
 cases h2 with
 | agg _ vs hl0 _ =>
  have hvs0 : vs = [] := List.eq_nil_of_length_eq_zero hl0
  subst hvs0
  have hrun : (execOp a.eval o).run P w = .ok .skip w := by
   unfold execOp
   simp only [ho, hea, hex]
   simp [Instr.storeAt, Instr.sureAddr, storeVar, hsz w, storeCells, Value.cells, Result.andThen]
  unfold Oper.wp
  rw [hrun]
  exact hK .undef _ G Go.undef w (lvc_ok _ _ _ kk) (Gle.refl G) S .undef
end
end
end Go.Proofs.YtidldcfpmehpiaaGreatDoor

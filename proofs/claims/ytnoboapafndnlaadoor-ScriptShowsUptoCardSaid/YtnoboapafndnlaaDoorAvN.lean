/- Abstract values: heaps in another order; panics; nil slices in cells. -/
import Derived.Test.YtnoboapafndnlaaDoorAvS
namespace Go.Proofs.YtnoboapafndnlaaDoor
open Go.RowKit
set_option linter.unusedSimpArgs false
set_option linter.unusedVariables false
structure PermH (h h' : AH) : Prop where
  o : h.objs.Perm h'.objs
  l : h.live.Perm h'.live
theorem PermH.refl (h : AH) : PermH h h := ⟨.refl _, .refl _⟩
section
variable {P : Program} {T : Tbl} {G : Gh} {h h' : AH} {w : World} {sl : List AV} {ops : Array Oper} {rest : List Oper} {o : Oper} {K : List AV → AH → Prop} {X : AV → AH → Prop} {Q : AQ} {cp : Bool}
theorem Sim.perm (S : Sim T G h w) (p : PermH h h') : Sim T G h' w :=
  ⟨S.below, S.glob, S.frz, S.fin, fun q hq => S.obj q (p.o.mem_iff.2 hq), (p.o.map _).nodup_iff.1 S.nd, fun t ht => S.liv t (p.l.mem_iff.2 ht),
    (p.l.pairwise_iff (fun {x y} H g h1 h2 => H g h2 h1)).1 S.tdis, fun t ht g hg hm => S.todis t (p.l.mem_iff.2 ht) g hg ((p.o.map _).mem_iff.2 hm), p.l.nodup_iff.1 S.lnd⟩
def delO (b : Nat) : List (Nat × Ob) → List (Nat × Ob)
  | [] => []
  | p :: r => if (p.1 == b) = true then r else p :: delO b r
def mvO (b : Nat) (l : List (Nat × Ob)) : List (Nat × Ob) :=
  match getO b l with
  | some ob => (b, ob) :: delO b l
  | none => l
def delT (t : Nat) : List Nat → List Nat
  | [] => []
  | x :: r => if (x == t) = true then r else x :: delT t r
def mvT (t : Nat) (l : List Nat) : List Nat := if l.contains t = true then t :: delT t l else l
theorem mvO_perm (b : Nat) : ∀ l : List (Nat × Ob), l.Perm (mvO b l) := by
  have key : ∀ (l : List (Nat × Ob)) (ob : Ob), getO b l = some ob → l.Perm ((b, ob) :: delO b l) := fun l => by
    induction l with
    | nil => intro ob e; simp [getO] at e
    | cons p r ih =>
      intro ob e
      unfold getO at e
      unfold delO
      split at e
      · rename_i hb
        injection e with e
        have : p.1 = b := by simpa using hb
        rw [if_pos hb, ← e, ← this]
      · rename_i hb
        rw [if_neg hb]
        exact ((ih ob e).cons p).trans (.swap ..)
  intro l
  unfold mvO
  split
  · rename_i ob e; exact key l ob e
  · exact .refl _
theorem mvT_perm (t : Nat) (l : List Nat) : l.Perm (mvT t l) := by
  have key : ∀ l : List Nat, t ∈ l → l.Perm (t :: delT t l) := fun l => by
    induction l with
    | nil => intro e; cases e
    | cons p r ih =>
      intro e
      unfold delT
      split
      · rename_i hb
        have : p = t := by simpa using hb
        rw [this]
      · rename_i hb
        have hm : t ∈ r := (List.mem_cons.1 e).resolve_left (fun e' => hb (by simp [e']))
        exact ((ih hm).cons p).trans (.swap ..)
  unfold mvT
  split
  · rename_i e; exact key l (by simpa using e)
  · exact .refl _
def frontH (bs ts : List Nat) (h : AH) : AH := ⟨bs.foldr mvO h.objs, ts.foldr mvT h.live⟩
theorem frontH_perm (bs ts : List Nat) (h : AH) : PermH h (frontH bs ts h) := by
  have k1 : ∀ l : List (Nat × Ob), l.Perm (bs.foldr mvO l) := fun l => by
    induction bs with
    | nil => exact .refl _
    | cons b r ih => exact ih.trans (mvO_perm b _)
  have k2 : ∀ l : List Nat, l.Perm (ts.foldr mvT l) := fun l => by
    induction ts with
    | nil => exact .refl _
    | cons b r ih => exact ih.trans (mvT_perm b _)
  exact ⟨k1 _, k2 _⟩
theorem ESt.perm {N : AV → AH → Prop} (p : PermH h h') (H : ESt P T o sl h' N X) : ESt P T o sl h N X :=
  ⟨H.1, fun G w a S hv Kc Q hK hX => H.2 G w a (S.perm p) hv Kc Q hK hX⟩
theorem AWp.perm {c : Code} (p : PermH h h') (H : AWp P T c Q sl h') : AWp P T c Q sl h := fun G w a S R => H G w a (S.perm p) R
/-- a call on a heap, put in order for it -/
theorem DW.acp {c : Call} {fo : Operand} {f : FuncId} {cap args : List AV} {h0 : AH} {R : AR → AH → Prop} (bs ts : List Nat) (ho : o.op = .call c) (hg : o.guard = none) (hc : c.callee = .value fo) (hf : ev T sl fo = .fn f cap)
    (hh : frontH bs ts h = h0) (ha : c.args.toList.map (ev T sl) ++ cap = args) (C : AC P T f args h0 R)
    (k : ∀ x h', R x h' → match x with
      | .ret r => lvc P T false ops rest (putA o.dst r sl) h' K X
      | .pan p => X p h') : DW P T false ops (o :: rest) sl h K X := by
  subst hh
  unfold DW
  rw [if_pos (by rw [effK_call ho hg hc false]; rfl)]
  refine ESt.perm (frontH_perm bs ts h) (ESt.ac ho hg hc hf (by rw [ha]; exact C) fun x h' hR => ?_)
  have := k x h' hR
  cases x with
  | ret r => exact lvc_ok rest _ _ this
  | pan p => exact this
theorem ACalls.le {f : FuncId} {args args' : List AV} {R : AR → AH → Prop} (c : ACalls P T f args' h R) (hle : LeL true args args') : ACalls P T f args h R :=
  fun G w vs S Rs => c G w vs S (Rs.le hle)
theorem AC.le {f : FuncId} {args args' : List AV} {R : AR → AH → Prop} (c : AC P T f args' h R) (hle : LeL true args args') : AC P T f args h R := ⟨c.call, c.run.le hle⟩
theorem AC.mono {f : FuncId} {args : List AV} {R R' : AR → AH → Prop} (c : AC P T f args h R) (hR : ∀ x h', R x h' → R' x h') : AC P T f args h R' :=
  ⟨c.call, fun G w vs S Rs => (c.run G w vs S Rs).mono fun e w' ⟨x, h', G', h1, h2⟩ => ⟨x, h', G', hR _ _ h1, h2⟩⟩
/-- a panic -/
theorem ESt.panic {N : AV → AH → Prop} {x : Operand} {t : TypeId} {a : AV} (ho : o.op = .panic x) (hg : o.guard = none) (hx : ev T sl x = .ifc t a) (k : X (.ifc t a) h) : ESt P T o sl h N X := by
  refine ⟨hg, fun G w act S hv Kc Q _ hX => ?_⟩
  have hvx := hv x (by simp [ho, Op.operands])
  rw [hx] at hvx
  obtain ⟨u, hu⟩ : ∃ u, act.eval x = .iface t u := by
    generalize act.eval x = z at hvx
    cases hvx with
    | ifc t h => exact ⟨_, rfl⟩
  have hrun : (execOp act.eval o).run P w = .halt (.panic (act.eval x)) w := by
    unfold execOp
    simp only [ho, hu]
    rfl
  unfold Oper.wp
  rw [hrun]
  exact hX _ h G _ w k (Gle.refl G) S hvx
theorem DW.panic {x : Operand} {t : TypeId} {a : AV} (ho : o.op = .panic x) (hg : o.guard = none) (hx : ev T sl x = .ifc t a) (k : X (.ifc t a) h) : DW P T cp ops (o :: rest) sl h K X := by
  unfold DW
  rw [if_pos (by unfold effK; rw [hg, ho])]
  exact ESt.panic ho hg hx k
theorem thenQ_p {K : List AV → AH → Prop} {p : AV} {s : List AV} (H : Q (.pan p) s h) : thenQ K Q (.pan p) s h := H
theorem blkQ_p {id : Nat} {p : AV} {s : List AV} (H : Q (.pan p) s h) : blkQ id Q (.pan p) s h := H
/-- a cell that holds nil, taken for a slice to append to -/
theorem AWp.ownNilH {c : Code} (b i j k : Nat) {ob : Ob} {r : List AV} (hg : getO b h.objs = some ob) (hr : ob.rows[i]? = some r) (hj : r[j]? = some .nils) (hk : 0 < k)
    (H : ∀ t, freshT t h.live → AWp P T c Q sl ⟨setO b ⟨ob.k, ob.c, ob.rows.set i (r.set j (.own t k []))⟩ h.objs, t :: h.live⟩) : AWp P T c Q sl h := by
  intro G w a S R
  obtain ⟨G', hG, S', ht, _⟩ := S.newNil hk
  have hfr : freshT G.nt h.live := fresh_tok fun x hx e => by
    subst e
    have := S'.lnd
    simp only [List.nodup_cons] at this
    exact this.1 hx
  have hO := S'.obj _ (getO_mem hg)
  have hwr : Wrote b w w := ⟨rfl, rfl, rfl, rfl, fun _ _ => rfl⟩
  have hob : ObR G' w b ⟨ob.k, ob.c, ob.rows.set i (r.set j (.own G.nt k []))⟩ := by
    obtain ⟨vs, ty, fz, h1, h2, h3, h4⟩ := hO.mem
    have hi : i < ob.rows.length := (List.getElem?_eq_some_iff.1 hr).1
    refine ⟨hO.low, hO.free, fun r' hr' => ?_, by simpa using hO.fits, hO.cmax, vs, ty, fz, h1, h2, h3, fun i' r' j' a' e1 e2 => ?_⟩
    · rcases List.mem_or_eq_of_mem_set hr' with hr' | rfl
      · exact hO.lenk r' hr'
      · rw [List.length_set]; exact hO.lenk r (List.mem_of_getElem? hr)
    · dsimp only at e1 e2 ⊢
      by_cases hii : i = i'
      · subst hii
        rw [List.getElem?_set_self hi] at e1
        injection e1 with e1
        subst e1
        by_cases hjj : j = j'
        · subst hjj
          rw [List.getElem?_set_self (List.getElem?_eq_some_iff.1 hj).1] at e2
          injection e2 with e2
          subst e2
          obtain ⟨_, v, hv1, hv2⟩ := h4 i r j _ hr hj
          refine ⟨rfl, v, hv1, ?_⟩
          cases hv2
          exact .own (.slc0 k none 0 (fun _ => rfl) (by decide)) ht
        · rw [List.getElem?_set_ne hjj] at e2
          exact h4 i r j' a' hr e2
      · rw [List.getElem?_set_ne hii] at e1
        exact h4 i' r' j' a' e1 e2
  have := S'.write hg hwr hob
  exact wp_mono (H G.nt hfr G' w a this (R.mono hG)) fun e a' w' hh => hh.mono hG (fun _ _ _ q => q)
end
attribute [go_sem] delO mvO delT mvT frontH
end Go.Proofs.YtnoboapafndnlaaDoor

/- Abstract values: regions that draw their order: one walk in a fitting order serves every order. -/
import Derived.Test.YtnoboapafndnlaaDoorAvI
namespace Go.Proofs.YtnoboapafndnlaaDoor
open Go.RowKit
set_option linter.unusedSimpArgs false
set_option linter.unusedVariables false

/-- does operation j wait for operation i, at once or through others? -/
def waits (md : Region.Mode) (ops : Array Oper) : Nat → Nat → Nat → Bool
  | 0, _, _ => false
  | n + 1, j, i => match ops[j]? with
    | some o => o.after.toList.any fun e => Region.binds md e && (e.on == i || waits md ops n e.on i)
    | none => false
def firstB (cp : Bool) (md : Region.Mode) (ops : Array Oper) (listed : Array Bool) (i : Nat) : Bool :=
  match ops[i]? with
  | some oi => (List.range ops.size).all fun j => j == i || listed.getD j true || waits md ops ops.size j i || (match ops[j]? with
    | some oj => oi.apart ops oj && (!effK cp oj || hiK oi)
    | none => true)
  | none => false
def ordB (cp : Bool) (md : Region.Mode) (ops : Array Oper) : List Nat → Array Bool → Bool
  | [], listed => (Region.ready md ops listed).isEmpty
  | i :: r, listed => (Region.ready md ops listed).contains i && (match ops[i]? with
    | some o => if effK cp o = true then Region.ready md ops listed == [i] else firstB cp md ops listed i
    | none => false) && ordB cp md ops r (listed.setIfInBounds i true)
def noSel (ops : Array Oper) : Bool := ops.toList.all fun o => match o.op with | .select .. => false | _ => true
/-- what has come up has had all it waits for come up -/
def DC (md : Region.Mode) (ops : Array Oper) (listed : Array Bool) : Prop :=
  ∀ j o, ops[j]? = some o → listed.getD j false = true → ∀ e ∈ o.after, Region.binds md e = true → listed.getD e.on false = true
section
variable {P : Program} {T : Tbl} {cp : Bool} {md : Region.Mode} {ops : Array Oper} {K : List AV → AH → Prop} {X : AV → AH → Prop}
theorem waits_listed {listed : Array Bool} (hd : DC md ops listed) {i : Nat} (hi : listed.getD i false = false) : ∀ (n j : Nat) (o : Oper), ops[j]? = some o → (∀ e ∈ o.after, Region.binds md e = true → listed.getD e.on false = true) → waits md ops n j i = false
  | 0, _, _, _, _ => rfl
  | n + 1, j, o, ho, hall => by
    unfold waits
    rw [ho]
    dsimp only
    rw [List.any_eq_false]
    intro e he hc
    simp only [Bool.and_eq_true, Bool.or_eq_true, beq_iff_eq] at hc
    obtain ⟨hb, hc⟩ := hc
    have he' : e ∈ o.after := by simpa using he
    have hl := hall e he' hb
    rcases hc with rfl | hc
    · rw [hi] at hl; cases hl
    · cases ho2 : ops[e.on]? with
      | none =>
        cases n with
        | zero => simp [waits] at hc
        | succ n => unfold waits at hc; rw [ho2] at hc; cases hc
      | some o2 =>
        rw [waits_listed hd hi n e.on o2 ho2 (hd _ _ ho2 hl)] at hc
        cases hc
theorem getD_false_of {listed : Array Bool} {i : Nat} (h : listed.getD i true = false) : listed.getD i false = false := by
  rcases Nat.lt_or_ge i listed.size with hl | hl
  · simp [hl] at h ⊢; exact h
  · simp [Array.getElem?_eq_none hl] at h
theorem DC.step {listed : Array Bool} (hd : DC md ops listed) {i : Nat} (hi : i ∈ Region.ready md ops listed) : DC md ops (listed.setIfInBounds i true) := by
  intro j o ho hj e he hb
  obtain ⟨_, oi, hoi, hall⟩ := mem_ready.1 hi
  by_cases hji : j = i
  · subst hji
    rw [hoi] at ho
    injection ho with ho
    subst ho
    exact getD_set_true (hall e he hb)
  · rw [getD_set_ne false (Ne.symm hji)] at hj
    exact getD_set_true (hd j o ho hj e he hb)
theorem ev_put {o : Oper} {sl : List AV} {d : Option Tmp} {v : AV} (h : ∀ x, d = some x → x ∉ o.looksAt ops) : ∀ x ∈ o.op.operands.toList, ev T (putA d v sl) x = ev T sl x := fun x hx => by
  cases d with
  | none => rfl
  | some d =>
    cases x with
    | tmp t =>
      have ht : d ≠ t := fun e => h d rfl (by
        subst e
        exact List.mem_append_left _ (List.mem_filterMap.2 ⟨.tmp d, hx, rfl⟩))
      simp only [ev, putA, List.getD, List.getElem?_set_ne ht]
    | _ => rfl
theorem gdA_put {o : Oper} {sl : List AV} {d : Option Tmp} {v : AV} {g : Nat × Bool} (hg : o.guard = some g) (h : ∀ x, d = some x → x ∉ o.looksAt ops) : gdA ops (putA d v sl) g.1 g.2 = gdA ops sl g.1 g.2 := by
  cases d with
  | none => rfl
  | some d =>
    unfold gdA
    cases hq : (ops[g.1]?).bind (·.dst) with
    | none => rfl
    | some t =>
      have ht : d ≠ t := fun e => h d rfl (by
        subst e
        unfold Oper.looksAt
        rw [hg]
        exact List.mem_append_right _ (by simp [hq]))
      simp only [putA, List.getD, List.getElem?_set_ne ht]
theorem AYv.put {o : Oper} {sl : List AV} {h : AH} {d : Option Tmp} {v x : AV} (hd : ∀ x, d = some x → x ∉ o.looksAt ops) (H : AYv P T o (ev T sl) h v) : AYv P T o (ev T (putA d x sl)) h v :=
  fun G w a S hv Kc Q hK => H G w a S (fun y hy => by rw [← ev_put (T := T) (sl := sl) (v := x) hd y hy]; exact hv y hy) Kc Q hK
theorem AYv.unput {o : Oper} {sl : List AV} {h : AH} {d : Option Tmp} {v x : AV} (hd : ∀ x, d = some x → x ∉ o.looksAt ops) (H : AYv P T o (ev T (putA d x sl)) h v) : AYv P T o (ev T sl) h v :=
  fun G w a S hv Kc Q hK => H G w a S (fun y hy => by rw [ev_put (T := T) (sl := sl) (v := x) hd y hy]; exact hv y hy) Kc Q hK
theorem Yg.put {o : Oper} {sl : List AV} {h : AH} {d : Option Tmp} {v x : AV} (hd : ∀ x, d = some x → x ∉ o.looksAt ops) (H : Yg P T ops o v sl h) : Yg P T ops o v (putA d x sl) h := by
  unfold Yg at *
  split at H
  · exact H.put hd
  · rename_i g hg
    obtain ⟨t, v0, h1, h2, h3⟩ := H
    exact ⟨t, v0, by rw [gdA_put hg hd]; exact h1, h2, fun e => (h3 e).put hd⟩
theorem Yg.unput {o : Oper} {sl : List AV} {h : AH} {d : Option Tmp} {v x : AV} (hd : ∀ x, d = some x → x ∉ o.looksAt ops) (H : Yg P T ops o v (putA d x sl) h) : Yg P T ops o v sl h := by
  unfold Yg at *
  split at H
  · exact H.unput hd
  · rename_i g hg
    obtain ⟨t, v0, h1, h2, h3⟩ := H
    exact ⟨t, v0, by rw [gdA_put hg hd] at h1; exact h1, h2, fun e => (h3 e).unput hd⟩
theorem ESt.unput {o : Oper} {sl : List AV} {h : AH} {d : Option Tmp} {x : AV} {N N' : AV → AH → Prop} (hd : ∀ x, d = some x → x ∉ o.looksAt ops) (H : ESt P T o (putA d x sl) h N X) (hN : ∀ r h', N r h' → N' r h') : ESt P T o sl h N' X :=
  ⟨H.1, fun G w a S hv Kc Q hK hX => H.2 G w a S (fun y hy => by rw [ev_put (T := T) (sl := sl) (v := x) hd y hy]; exact hv y hy) Kc Q (fun r h' G' u w' hr => hK r h' G' u w' (hN _ _ hr)) hX⟩
theorem putA_comm {d e : Option Tmp} {v u : AV} {sl : List AV} (h : ∀ x, d = some x → e ≠ some x) : putA d v (putA e u sl) = putA e u (putA d v sl) := by
  cases d with
  | none => rfl
  | some d =>
    cases e with
    | none => rfl
    | some e =>
      have : d ≠ e := fun he => h d rfl (by rw [he])
      simp only [putA]
      rw [List.set_comm _ _ (Ne.symm this)]
/-- operation i comes up -/
def aOp (P : Program) (T : Tbl) (cp : Bool) (ops : Array Oper) (X : AV → AH → Prop) (i : Nat) (N : List AV → AH → Prop) (sl : List AV) (h : AH) : Prop :=
  match ops[i]? with
  | none => N sl h
  | some o => if effK cp o = true then ESt P T o sl h (fun r h' => N (putA o.dst r sl) h') X
    else ∃ v, Yg P T ops o v sl h ∧ (hiK o = true → ∀ h', Yg P T ops o v sl h') ∧ N (putA o.dst v sl) h
/-- whatever order is picked -/
def AAny (P : Program) (T : Tbl) (cp : Bool) (md : Region.Mode) (ops : Array Oper) (K : List AV → AH → Prop) (X : AV → AH → Prop) : Nat → Array Bool → List AV → AH → Prop
  | 0, listed, sl, h => Region.ready md ops listed = [] ∧ K sl h
  | fuel + 1, listed, sl, h => (Region.ready md ops listed = [] → K sl h) ∧ ∀ i ∈ Region.ready md ops listed, aOp P T cp ops X i (AAny P T cp md ops K X fuel (listed.setIfInBounds i true)) sl h
theorem AAny.wp : ∀ (fuel : Nat) (listed : Array Bool) (sl : List AV) (h : AH), AAny P T cp md ops K X fuel listed sl h → ∀ (G0 G : Gh) (w : World) (a : Act) (ds : List Deferred), Gle G0 G → Sim T G h w → SlR G sl a.tmps → a.defers = ds → wpAny P md ops (Lift T (LQ K X) G0 ds) fuel listed a w
  | 0, listed, sl, h, H => fun G0 G w a ds hG S R hd => ⟨H.1, hd, .normal, sl, h, G, H.2, trivial, hG, S, R⟩
  | fuel + 1, listed, sl, h, H => fun G0 G w a ds hG S R hd => by
    refine ⟨fun h0 => ⟨hd, .normal, sl, h, G, H.1 h0, trivial, hG, S, R⟩, fun i hi => ?_⟩
    have hop := H.2 i hi
    unfold aOp at hop
    unfold wpOp
    split
    · rename_i ho
      rw [ho] at hop
      exact AAny.wp fuel _ _ _ hop G0 G w a ds hG S R hd
    · rename_i o ho
      rw [ho] at hop
      dsimp only at hop
      split at hop
      · obtain ⟨hg, hop⟩ := hop
        rw [if_pos (by simp [Region.wanted, hg])]
        refine .inl (hop G w a S (fun x _ => ev_ok S R x) _ _ (fun r h' G' u w' hr hG' S' hu => ?_) (fun p h' G' u w' hp hG' S' hu => ?_))
        · exact AAny.wp fuel _ _ _ hr G0 G' w' _ ds (hG.trans hG') S' ((R.mono hG').put hu o.dst) (by rw [put_defers]; exact hd)
        · exact ⟨hd, .pan p, sl, h', G', hp, ⟨u, rfl, hu⟩, hG.trans hG', S', R.mono hG'⟩
      · obtain ⟨v, hy, _, hr⟩ := hop
        have := hy.run S R (Kc := wpAny P md ops (Lift T (LQ K X) G0 ds) fuel (listed.setIfInBounds i true)) (Q := Lift T (LQ K X) G0 ds) fun G' u w' hG' S' hu => AAny.wp fuel _ _ _ hr G0 G' w' _ ds (hG.trans hG') S' ((R.mono hG').put hu o.dst) (by rw [put_defers]; exact hd)
        split
        · rename_i hw; rw [if_pos hw] at this; exact .inl this
        · rename_i hw; rw [if_neg hw] at this; exact this
theorem AAny.first {i : Nat} {oi : Oper} {v : AV} (hi : ops[i]? = some oi) (hni : effK cp oi = false) : ∀ (fuel : Nat) (listed : Array Bool) (sl : List AV) (h : AH), DC md ops listed →
    (∀ j oj, ops[j]? = some oj → j ≠ i → listed.getD j true = false → waits md ops ops.size j i = false → oi.apart ops oj = true ∧ (effK cp oj = true → hiK oi = true)) →
    i ∈ Region.ready md ops listed → Yg P T ops oi v sl h → (hiK oi = true → ∀ h', Yg P T ops oi v sl h') →
    AAny P T cp md ops K X fuel (listed.setIfInBounds i true) (putA oi.dst v sl) h → AAny P T cp md ops K X (fuel + 1) listed sl h := by
  intro fuel
  induction fuel with
  | zero =>
    intro listed sl h hdc _ hr hy hhi H
    refine ⟨fun h0 => (by rw [h0] at hr; cases hr), fun j hj => ?_⟩
    by_cases hji : j = i
    · subst hji
      unfold aOp
      rw [hi]
      dsimp only
      rw [if_neg (by rw [hni]; simp)]
      exact ⟨v, hy, hhi, H⟩
    · have := ready_mono hj hji
      rw [H.1] at this
      cases this
  | succ fuel ih =>
    intro listed sl h hdc hfree hr hy hhi H
    refine ⟨fun h0 => (by rw [h0] at hr; cases hr), fun j hj => ?_⟩
    by_cases hji : j = i
    · subst hji
      unfold aOp
      rw [hi]
      dsimp only
      rw [if_neg (by rw [hni]; simp)]
      exact ⟨v, hy, hhi, H⟩
    · have h1 := H.2 j (ready_mono hj hji)
      obtain ⟨hjun, oj, hoj, hall⟩ := mem_ready.1 hj
      have hiun := getD_false_of (mem_ready.1 hr).1
      obtain ⟨hap, hke⟩ := hfree j oj hoj hji hjun (waits_listed hdc hiun _ _ _ hoj hall)
      obtain ⟨a1, a2, a3⟩ := Oper.apart_spec hap
      have hfree' : ∀ k ok, ops[k]? = some ok → k ≠ i → (listed.setIfInBounds j true).getD k true = false → waits md ops ops.size k i = false → oi.apart ops ok = true ∧ (effK cp ok = true → hiK oi = true) := fun k ok hk hki hun hw => by
        refine hfree k ok hk hki ?_ hw
        by_cases hjk : j = k
        · subst hjk; exact hjun
        · rw [getD_set_ne true hjk] at hun; exact hun
      have next : ∀ (u : AV) (h' : AH), (hiK oi = true ∨ h' = h) → AAny P T cp md ops K X fuel ((listed.setIfInBounds i true).setIfInBounds j true) (putA oj.dst u (putA oi.dst v sl)) h' → AAny P T cp md ops K X (fuel + 1) (listed.setIfInBounds j true) (putA oj.dst u sl) h' := fun u h' hk hN => by
        have hy' : Yg P T ops oi v sl h' := by
          rcases hk with hk | rfl
          · exact hhi hk h'
          · exact hy
        refine ih (listed.setIfInBounds j true) (putA oj.dst u sl) h' (hdc.step hj) hfree' (ready_mono hr (Ne.symm hji)) (hy'.put a3) (fun hk h2 => (hhi hk h2).put a3) ?_
        rw [Array.setIfInBounds_comm _ _ hji, putA_comm a2]
        exact hN
      unfold aOp at h1 ⊢
      rw [hoj] at h1 ⊢
      dsimp only at h1 ⊢
      split
      · rename_i he
        rw [if_pos he] at h1
        exact h1.unput a1 fun r h' hN => next r h' (.inl (hke he)) hN
      · rename_i he
        rw [if_neg he] at h1
        obtain ⟨u, g1, g2, g3⟩ := h1
        exact ⟨u, g1.unput a1, fun hk h2 => (g2 hk h2).unput a1, next u h (.inr rfl) g3⟩
theorem firstB_spec {listed : Array Bool} {i : Nat} {oi : Oper} (hi : ops[i]? = some oi) (h : firstB cp md ops listed i = true) :
    ∀ j oj, ops[j]? = some oj → j ≠ i → listed.getD j true = false → waits md ops ops.size j i = false → oi.apart ops oj = true ∧ (effK cp oj = true → hiK oi = true) := by
  intro j oj hj hji hun hw
  unfold firstB at h
  rw [hi] at h
  dsimp only at h
  have := List.all_eq_true.1 h j (List.mem_range.2 (Array.getElem?_eq_some_iff.1 hj).1)
  rw [hj, hun, hw] at this
  have hne : (j == i) = false := by simpa using hji
  rw [hne] at this
  simp only [Bool.false_or, Bool.and_eq_true, Bool.or_eq_true, Bool.not_eq_true'] at this
  exact ⟨this.1, fun he => this.2.resolve_left (by rw [he]; simp)⟩
theorem DW.any : ∀ (ord : List Nat) (l : List Oper) (listed : Array Bool) (sl : List AV) (h : AH), l.length = ord.length → (∀ (n i : Nat), ord[n]? = some i → l[n]? = ops[i]?) → DC md ops listed → ordB cp md ops ord listed = true → DW P T cp ops l sl h K X → AAny P T cp md ops K X ord.length listed sl h
  | [], [], listed, sl, h, _, _, _, hB, H => ⟨by simpa [ordB] using hB, H⟩
  | [], _ :: _, _, _, _, hl, _, _, _, _ => by simp at hl
  | _ :: _, [], _, _, _, hl, _, _, _, _ => by simp at hl
  | i :: ord, o :: l, listed, sl, h, hl, hmap, hdc, hB, H => by
    have hi : ops[i]? = some o := (hmap 0 i rfl).symm
    unfold ordB at hB
    rw [hi] at hB
    simp only [Bool.and_eq_true] at hB
    obtain ⟨⟨hr, hf⟩, hB'⟩ := hB
    have hr : i ∈ Region.ready md ops listed := by simpa using hr
    have rest := fun sl h H => DW.any ord l (listed.setIfInBounds i true) sl h (by simpa using hl) (fun n k e => by simpa using hmap (n + 1) k (by simpa using e)) (hdc.step hr) hB' H
    unfold DW at H
    split at H
    · rename_i he
      rw [if_pos he] at hf
      have hone : Region.ready md ops listed = [i] := by simpa using hf
      refine ⟨fun h0 => (by rw [h0] at hr; cases hr), fun j hj => ?_⟩
      rw [hone] at hj
      have hj : j = i := by simpa using hj
      subst hj
      unfold aOp
      rw [hi]
      dsimp only
      rw [if_pos he]
      exact ⟨H.1, fun G w a S hv Kc Q hK hX => H.2 G w a S hv Kc Q (fun r h' G' u w' hr => hK r h' G' u w' (rest _ _ hr)) hX⟩
    · rename_i he
      rw [if_neg he] at hf
      obtain ⟨v, g1, g2, g3⟩ := H
      exact AAny.first hi (by simpa using he) ord.length listed sl h hdc (firstB_spec hi hf) hr g1 g2 (rest _ _ g3)
def pick (ops : List Oper) (ord : List Nat) : List Oper := ord.filterMap fun i => ops[i]?
theorem pick_spec {ops : List Oper} : ∀ {ord : List Nat}, (∀ i ∈ ord, i < ops.length) → (pick ops ord).length = ord.length ∧ ∀ (n i : Nat), ord[n]? = some i → (pick ops ord)[n]? = ops[i]?
  | [], _ => ⟨rfl, fun n i e => by simp at e⟩
  | i :: ord, h => by
    have hlt := h i (List.mem_cons_self ..)
    have hi : ops[i]? = some ops[i] := List.getElem?_eq_getElem hlt
    obtain ⟨h1, h2⟩ := pick_spec (ops := ops) (ord := ord) fun j hj => h j (List.mem_cons_of_mem _ hj)
    have e : pick ops (i :: ord) = ops[i] :: pick ops ord := by simp [pick, hi]
    rw [e]
    refine ⟨by simp [h1], fun n k hk => ?_⟩
    cases n with
    | zero => simp at hk; subst hk; rw [hi]; rfl
    | succ n => simp at hk ⊢; exact h2 n k hk
def ordOk (cp : Bool) (ops : List Oper) (ord : List Nat) : Bool := ord.length == ops.length && ord.all (fun i => decide (i < ops.length)) && ordB cp .any ops.toArray ord (Array.replicate ops.length false)
theorem AWp.draw {id : Nat} {l : List Oper} {Q : AQ} {sl : List AV} {h : AH} (cp : Bool) (ord : List Nat) (hm : P.follows .mixedOrders = true) (hB : ordOk cp l ord = true)
    (H : lvc P T cp l.toArray (pick l ord) sl h (fun s h => Q .normal s h) (fun p h => ∀ s, Q (.pan p) s h)) : AWp P T (.region id l.toArray true) Q sl h := by
  simp only [ordOk, Bool.and_eq_true, beq_iff_eq] at hB
  obtain ⟨⟨hlen, hall⟩, hB⟩ := hB
  have hlt : ∀ i ∈ ord, i < l.length := fun i hi => by simpa using List.all_eq_true.1 hall i hi
  obtain ⟨h1, h2⟩ := pick_spec hlt
  refine AWp.of_lift fun G w a S R => wp_region_any hm ?_
  have hany := DW.any (P := P) (T := T) (K := fun s h => Q .normal s h) (X := fun p h => ∀ s, Q (.pan p) s h) ord (pick l ord) (Array.replicate l.length false) sl h h1 (fun n i e => by rw [h2 n i e]; simp) (fun j o _ hj => by
    simp [Array.getElem?_replicate] at hj
    split at hj <;> simp at hj) hB (lvc_ok _ _ _ H)
  rw [hlen] at hany
  have := AAny.wp _ _ _ _ hany G G w.drew a a.defers (Gle.refl G) S.drew R rfl
  simpa using this
/-- a region that draws its order, and what is behind it -/
theorem AWp.ds {id : Nat} {l : List Oper} {y : Code} {Q : AQ} {sl : List AV} {h : AH} (cp : Bool) (ord : List Nat) (hm : P.follows .mixedOrders = true) (hB : ordOk cp l ord = true)
    (H : ∀ K : List AV → AH → Prop, (∀ s h, AWp P T y Q s h → K s h) → lvc P T cp l.toArray (pick l ord) sl h K (fun p h => ∀ s, Q (.pan p) s h)) : AWp P T (.seq (.region id l.toArray true) y) Q sl h :=
  AWp.seq fun K hK => AWp.draw cp ord hm hB (H K hK)
theorem AWp.rk {id : Nat} {l : List Oper} {Q : AQ} {sl : List AV} {h : AH} (H : ∀ K : List AV → AH → Prop, (∀ s h, Q .normal s h → K s h) → lvc P T false l.toArray l sl h K (fun p h => ∀ s, Q (.pan p) s h)) : AWp P T (.region id l.toArray false) Q sl h :=
  AWp.reg (H _ fun _ _ h => h)
theorem AWp.dk {id : Nat} {l : List Oper} {Q : AQ} {sl : List AV} {h : AH} (cp : Bool) (ord : List Nat) (hm : P.follows .mixedOrders = true) (hB : ordOk cp l ord = true)
    (H : ∀ K : List AV → AH → Prop, (∀ s h, Q .normal s h → K s h) → lvc P T cp l.toArray (pick l ord) sl h K (fun p h => ∀ s, Q (.pan p) s h)) : AWp P T (.region id l.toArray true) Q sl h :=
  AWp.draw cp ord hm hB (H _ fun _ _ h => h)
section
variable {Q : AQ} {s : List AV} {h : AH} {id i : Nat}
theorem thenQ_n {K : List AV → AH → Prop} (H : K s h) : thenQ K Q .normal s h := H
theorem thenQ_e {K : List AV → AH → Prop} (H : Q (.exit i) s h) : thenQ K Q (.exit i) s h := H
theorem blkQ_n (H : Q .normal s h) : blkQ id Q .normal s h := H
theorem blkQ_e (H : Q .normal s h) : blkQ id Q (.exit id) s h := by simp only [blkQ, if_true]; exact H
theorem blkQ_d (hne : i ≠ id) (H : Q (.exit i) s h) : blkQ id Q (.exit i) s h := by simp only [blkQ, if_neg hne]; exact H
end
end
end Go.Proofs.YtnoboapafndnlaaDoor

/- Texts that the law BookDecodes rests on, packed. -/
import Derived.Test.YthhfbolhlbgbgaaDoorBookDecodesK2
namespace Go.Proofs.YthhfbolhlbgbgaaDoor
open Go.RowKit
set_option linter.unusedSimpArgs false
set_option linter.unusedVariables false
/-- what some slots hold -/
def AgK (ks : List (Nat × AV)) (s : List AV) : Prop := ∀ p ∈ ks, s.getD p.1 .undef = p.2
theorem AgK.put {ks : List (Nat × AV)} {s : List AV} {d : Option Tmp} {v : AV} (h : AgK ks s) (hd : ∀ t, d = some t → ∀ p ∈ ks, p.1 ≠ t) : AgK ks (putA d v s) := fun p hp => by
  cases d with
  | none => exact h p hp
  | some t =>
    have hne := hd t rfl p hp
    have h1 := h p hp
    unfold putA
    simp only [List.getD] at h1 ⊢
    rw [List.getElem?_set_ne (fun e => hne e.symm)]
    exact h1
def agOk (ks : List (Nat × AV)) (ops : List Oper) : Bool := ops.all fun o => match o.dst with | none => true | some t => ks.all fun p => !(p.1 == t)
theorem agOk_put {ks : List (Nat × AV)} {ops : List Oper} (h : agOk ks ops = true) {o : Oper} (ho : o ∈ ops) {s : List AV} {v : AV} (hs : AgK ks s) : AgK ks (putA o.dst v s) := hs.put fun t ht p hp e => by
  have h1 := List.all_eq_true.1 h o ho
  rw [ht] at h1
  have h2 := List.all_eq_true.1 h1 p hp
  simp [e] at h2
def LQA (K : List AV → AH → Prop) (X : AV → AH → Prop) (Ag : List AV → Prop) : AQ
  | .normal, s, h => K s h
  | .pan p, s, h => X p h ∧ Ag s
  | _, _, _ => False
section
variable {P : Program} {T : Tbl} {G : Gh} {h : AH} {w : World} {sl : List AV} {cp : Bool} {md : Region.Mode} {ops : Array Oper} {K : List AV → AH → Prop} {X : AV → AH → Prop} {ks : List (Nat × AV)}
theorem DW.listA {cp : Bool} : ∀ (l : List Oper) (sl : List AV) (h : AH), agOk ks l = true → AgK ks sl → DW P T cp ops l sl h K X → ∀ (G0 G : Gh) (w : World) (a : Act) (ds : List Deferred), Gle G0 G → Sim T G h w → SlR G sl a.tmps → a.defers = ds → wpList P ops (Lift T (LQA K X (AgK ks)) G0 ds) l a w
  | [], sl, h, _, _, H => fun G0 G w a ds hG S R hd => ⟨hd, .normal, sl, h, G, H, trivial, hG, S, R⟩
  | o :: rest, sl, h, hok, hag, H => by
    have hput : ∀ v, AgK ks (putA o.dst v sl) := fun v => agOk_put hok (List.mem_cons_self ..) hag
    have hok' : agOk ks rest = true := by
      unfold agOk at hok ⊢
      simp only [List.all_cons, Bool.and_eq_true] at hok
      exact hok.2
    intro G0 G w a ds hG S R hd
    unfold DW at H
    split at H
    · obtain ⟨hg, H⟩ := H
      refine wpList_plain hg fun K' hK' => H G w a S (fun x _ => ev_ok S R x) K' _ (fun r h' G' u w' hr hG' S' hu => ?_) (fun p h' G' u w' hp hG' S' hu => ?_)
      · exact hK' _ _ (DW.listA rest _ _ hok' (hput r) hr G0 G' w' _ ds (hG.trans hG') S' ((R.mono hG').put hu o.dst) (by rw [put_defers]; exact hd))
      · exact ⟨hd, .pan p, sl, h', G', ⟨hp, hag⟩, ⟨u, rfl, hu⟩, hG.trans hG', S', R.mono hG'⟩
    · obtain ⟨v, hy, _, hr⟩ := H
      refine wpList_step fun K' hK' => hy.run S R fun G' u w' hG' S' hu => ?_
      exact hK' _ _ (DW.listA rest _ _ hok' (hput v) hr G0 G' w' _ ds (hG.trans hG') S' ((R.mono hG').put hu o.dst) (by rw [put_defers]; exact hd))
theorem AWp.of_liftA {c : Code} {Q : AQ} (ks : List (Nat × AV)) (H : ∀ (G : Gh) (w : World) (a : Act), Sim T G h w → SlR G sl a.tmps → c.wp P (Lift T (LQA (fun s h => Q .normal s h) (fun p h => ∀ s, AgK ks s → Q (.pan p) s h) (AgK ks)) G a.defers) a w) : AWp P T c Q sl h := by
  intro G w a S R
  refine wp_mono (H G w a S R) ?_
  rintro e a' w' ⟨hd, x, s, h', G', hq, hx, hG, S', R'⟩
  cases x with
  | normal => exact ⟨hd, .normal, s, h', G', hq, hx, hG, S', R'⟩
  | pan p => exact ⟨hd, .pan p, s, h', G', hq.1 s hq.2, hx, hG, S', R'⟩
  | exit i => exact hq.elim
  | ret => exact hq.elim
theorem AWp.regA {id : Nat} {l : List Oper} {Q : AQ} (ks : List (Nat × AV)) (hag : AgK ks sl) (hok : agOk ks l = true) (H : lvc P T false l.toArray l sl h (fun s h => Q .normal s h) (fun p h => ∀ s, AgK ks s → Q (.pan p) s h)) : AWp P T (.region id l.toArray false) Q sl h :=
  AWp.of_liftA ks fun G w a S R => wp_region_lit (DW.listA l sl h hok hag (lvc_ok l sl h H) G G w a a.defers (Gle.refl G) S R rfl)
theorem AWp.rsA {id : Nat} {l : List Oper} {y : Code} {Q : AQ} (ks : List (Nat × AV)) (hag : AgK ks sl) (hok : agOk ks l = true) (H : ∀ K : List AV → AH → Prop, (∀ s h, AWp P T y Q s h → K s h) → lvc P T false l.toArray l sl h K (fun p h => ∀ s, AgK ks s → Q (.pan p) s h)) : AWp P T (.seq (.region id l.toArray false) y) Q sl h :=
  AWp.seq fun K hK => AWp.regA ks hag hok (H K hK)
theorem AWp.rkA {id : Nat} {l : List Oper} {Q : AQ} (ks : List (Nat × AV)) (hag : AgK ks sl) (hok : agOk ks l = true) (H : ∀ K : List AV → AH → Prop, (∀ s h, Q .normal s h → K s h) → lvc P T false l.toArray l sl h K (fun p h => ∀ s, AgK ks s → Q (.pan p) s h)) : AWp P T (.region id l.toArray false) Q sl h :=
  AWp.regA ks hag hok (H _ fun _ _ h => h)
theorem AAny.wpA (hok : agOk ks ops.toList = true) : ∀ (fuel : Nat) (listed : Array Bool) (sl : List AV) (h : AH), AgK ks sl → AAny P T cp md ops K X fuel listed sl h → ∀ (G0 G : Gh) (w : World) (a : Act) (ds : List Deferred), Gle G0 G → Sim T G h w → SlR G sl a.tmps → a.defers = ds → wpAny P md ops (Lift T (LQA K X (AgK ks)) G0 ds) fuel listed a w
  | 0, listed, sl, h, _, H => fun G0 G w a ds hG S R hd => ⟨H.1, hd, .normal, sl, h, G, H.2, trivial, hG, S, R⟩
  | fuel + 1, listed, sl, h, hag, H => fun G0 G w a ds hG S R hd => by
    refine ⟨fun h0 => ⟨hd, .normal, sl, h, G, H.1 h0, trivial, hG, S, R⟩, fun i hi => ?_⟩
    have hop := H.2 i hi
    unfold aOp at hop
    unfold wpOp
    split
    · rename_i ho
      rw [ho] at hop
      exact AAny.wpA hok fuel _ _ _ hag hop G0 G w a ds hG S R hd
    · rename_i o ho
      have hput : ∀ v, AgK ks (putA o.dst v sl) := fun v => agOk_put hok (by rw [← Array.getElem?_toList] at ho; exact List.mem_of_getElem? ho) hag
      rw [ho] at hop
      dsimp only at hop
      split at hop
      · obtain ⟨hg, hop⟩ := hop
        rw [if_pos (by simp [Region.wanted, hg])]
        refine .inl (hop G w a S (fun x _ => ev_ok S R x) _ _ (fun r h' G' u w' hr hG' S' hu => ?_) (fun p h' G' u w' hp hG' S' hu => ?_))
        · exact AAny.wpA hok fuel _ _ _ (hput r) hr G0 G' w' _ ds (hG.trans hG') S' ((R.mono hG').put hu o.dst) (by rw [put_defers]; exact hd)
        · exact ⟨hd, .pan p, sl, h', G', ⟨hp, hag⟩, ⟨u, rfl, hu⟩, hG.trans hG', S', R.mono hG'⟩
      · obtain ⟨v, hy, _, hr⟩ := hop
        have := hy.run S R (Kc := wpAny P md ops (Lift T (LQA K X (AgK ks)) G0 ds) fuel (listed.setIfInBounds i true)) (Q := Lift T (LQA K X (AgK ks)) G0 ds) fun G' u w' hG' S' hu => AAny.wpA hok fuel _ _ _ (hput v) hr G0 G' w' _ ds (hG.trans hG') S' ((R.mono hG').put hu o.dst) (by rw [put_defers]; exact hd)
        split
        · rename_i hw; rw [if_pos hw] at this; exact .inl this
        · rename_i hw; rw [if_neg hw] at this; exact this
theorem AWp.drawA {id : Nat} {l : List Oper} {Q : AQ} {sl : List AV} {h : AH} (ks : List (Nat × AV)) (hag : AgK ks sl) (hok : agOk ks l = true) (cp : Bool) (ord : List Nat) (hm : P.follows .mixedOrders = true) (hB : ordOk cp l ord = true)
    (H : lvc P T cp l.toArray (pick l ord) sl h (fun s h => Q .normal s h) (fun p h => ∀ s, AgK ks s → Q (.pan p) s h)) : AWp P T (.region id l.toArray true) Q sl h := by
  simp only [ordOk, Bool.and_eq_true, beq_iff_eq] at hB
  obtain ⟨⟨hlen, hall⟩, hB⟩ := hB
  have hlt : ∀ i ∈ ord, i < l.length := fun i hi => by simpa using List.all_eq_true.1 hall i hi
  obtain ⟨h1, h2⟩ := pick_spec hlt
  refine AWp.of_liftA ks fun G w a S R => wp_region_any hm ?_
  have hany := DW.any (P := P) (T := T) (K := fun s h => Q .normal s h) (X := fun p h => ∀ s, AgK ks s → Q (.pan p) s h) ord (pick l ord) (Array.replicate l.length false) sl h h1 (fun n i e => by rw [h2 n i e]; simp) (fun j o _ hj => by
    simp [Array.getElem?_replicate] at hj
    split at hj <;> simp at hj) hB (lvc_ok _ _ _ H)
  rw [hlen] at hany
  have := AAny.wpA (ops := l.toArray) (by simpa using hok) _ _ _ _ hag hany G G w.drew a a.defers (Gle.refl G) S.drew R rfl
  simpa using this
theorem AWp.dsA {id : Nat} {l : List Oper} {y : Code} {Q : AQ} {sl : List AV} {h : AH} (ks : List (Nat × AV)) (hag : AgK ks sl) (hok : agOk ks l = true) (cp : Bool) (ord : List Nat) (hm : P.follows .mixedOrders = true) (hB : ordOk cp l ord = true)
    (H : ∀ K : List AV → AH → Prop, (∀ s h, AWp P T y Q s h → K s h) → lvc P T cp l.toArray (pick l ord) sl h K (fun p h => ∀ s, AgK ks s → Q (.pan p) s h)) : AWp P T (.seq (.region id l.toArray true) y) Q sl h :=
  AWp.seq fun K hK => AWp.drawA ks hag hok cp ord hm hB (H K hK)
theorem AWp.dkA {id : Nat} {l : List Oper} {Q : AQ} {sl : List AV} {h : AH} (ks : List (Nat × AV)) (hag : AgK ks sl) (hok : agOk ks l = true) (cp : Bool) (ord : List Nat) (hm : P.follows .mixedOrders = true) (hB : ordOk cp l ord = true)
    (H : ∀ K : List AV → AH → Prop, (∀ s h, Q .normal s h → K s h) → lvc P T cp l.toArray (pick l ord) sl h K (fun p h => ∀ s, AgK ks s → Q (.pan p) s h)) : AWp P T (.region id l.toArray true) Q sl h :=
  AWp.drawA ks hag hok cp ord hm hB (H _ fun _ _ h => h)
theorem AWp.drawL0A {id : Nat} {l : List Oper} {Q : AQ} {sl : List AV} {h : AH} (ks : List (Nat × AV)) (hag : AgK ks sl) (hok : agOk ks l = true) (ord1 : List Nat) (i c : Nat) (ord2 : List Nat) {oi oc : Oper} (hm : P.follows .mixedOrders = true) (hB : ordOkL0 l ord1 i c ord2 = true) (hi : l[i]? = some oi) (hc : l[c]? = some oc)
    (H : lvc P T false l.toArray (pick l ord1) sl h (fun s1 h1 => ∃ v, okV (opP P oi.op (ev T s1) h1) v ∧
      DW P T false l.toArray [oc] (putA oi.dst v s1) h1 (fun s2 h2 => okV (opP P oi.op (ev T s1) h2) v ∧ lvc P T false l.toArray (pick l ord2) s2 h2 (fun s h => Q .normal s h) (fun p h => ∀ s, AgK ks s → Q (.pan p) s h)) (fun p h => ∀ s, AgK ks s → Q (.pan p) s h)) (fun p h => ∀ s, AgK ks s → Q (.pan p) s h)) :
    AWp P T (.region id l.toArray true) Q sl h := by
  simp only [ordOkL0, hi, hc, Bool.and_eq_true, beq_iff_eq, Bool.not_eq_true', Option.isNone_iff_eq_none] at hB
  obtain ⟨⟨⟨⟨⟨⟨⟨⟨⟨⟨⟨⟨hlen, hall1⟩, hall2⟩, hpre⟩, hri⟩, hrc⟩, hrall⟩, hic⟩, ⟨⟨⟨⟨k1, k3⟩, k5⟩, k6⟩, k8⟩⟩, hBA⟩, hone⟩, hfi⟩, hBB⟩ := hB
  have hlt1 : ∀ i ∈ ord1, i < l.length := fun i hi => by simpa using List.all_eq_true.1 hall1 i hi
  have hlt2 : ∀ i ∈ ord2, i < l.length := fun i hi => by simpa using List.all_eq_true.1 hall2 i hi
  obtain ⟨p1, p2⟩ := pick_spec hlt1
  obtain ⟨q1, q2⟩ := pick_spec hlt2
  have hdc0 : DC .any l.toArray (Array.replicate l.length false) := fun j o _ hj => by
    simp [Array.getElem?_replicate] at hj
    split at hj <;> simp at hj
  refine AWp.of_liftA ks fun G w a S R => wp_region_any hm ?_
  have hany := DW.anyP (P := P) (T := T) (cp := false) (K := fun s h => Q .normal s h) (X := fun p h => ∀ s, AgK ks s → Q (.pan p) s h) (fuel := ord2.length + 2) ord1 (pick l ord1) (Array.replicate l.length false) sl h p1 (fun n i e => by rw [p2 n i e]; simp) hdc0 hpre
    (DW.monoK (fun s1 h1 hh => by
      obtain ⟨v, e1, D⟩ := hh
      unfold DW at D
      rw [if_pos k3] at D
      refine AAny.lc0 (oi := oi) (oc := oc) (l2 := pick l ord2) (by simpa using hi) (by simpa using hc) k1 k3 (hdc0.lst (cp := false) ord1 hpre) (by simpa using hri) (fun x hx => by simpa using List.all_eq_true.1 hrall x hx) (by simpa using hrc) (by simpa using hic) k8 q1 (fun n i e => by rw [q2 n i e]; simp) hBA hone hfi hBB
        (Yg.of_okV k6 e1) ?_ k5
      exact ⟨D.1, fun G w a S hv Kc Q hK hX => D.2 G w a S hv Kc Q (fun r h' G' u w' hr => hK r h' G' u w' ⟨Yg.of_okV k6 hr.1, lvc_ok _ _ _ hr.2⟩) hX⟩) _ _ _ (lvc_ok _ _ _ H))
  rw [hlen] at hany
  have := AAny.wpA (ops := l.toArray) (by simpa using hok) _ _ _ _ hag hany G G w.drew a a.defers (Gle.refl G) S.drew R rfl
  simpa using this
theorem AWp.dsL0A {id : Nat} {l : List Oper} {y : Code} {Q : AQ} {sl : List AV} {h : AH} (ks : List (Nat × AV)) (hag : AgK ks sl) (hok : agOk ks l = true) (ord1 : List Nat) (i c : Nat) (ord2 : List Nat) {oi oc : Oper} (hm : P.follows .mixedOrders = true) (hB : ordOkL0 l ord1 i c ord2 = true) (hi : l[i]? = some oi) (hc : l[c]? = some oc)
    (H : ∀ K : List AV → AH → Prop, (∀ s h, AWp P T y Q s h → K s h) → lvc P T false l.toArray (pick l ord1) sl h (fun s1 h1 => ∃ v, okV (opP P oi.op (ev T s1) h1) v ∧
      DW P T false l.toArray [oc] (putA oi.dst v s1) h1 (fun s2 h2 => okV (opP P oi.op (ev T s1) h2) v ∧ lvc P T false l.toArray (pick l ord2) s2 h2 K (fun p h => ∀ s, AgK ks s → Q (.pan p) s h)) (fun p h => ∀ s, AgK ks s → Q (.pan p) s h)) (fun p h => ∀ s, AgK ks s → Q (.pan p) s h)) :
    AWp P T (.seq (.region id l.toArray true) y) Q sl h :=
  AWp.seq fun K hK => AWp.drawL0A ks hag hok ord1 i c ord2 hm hB hi hc (H K hK)
theorem AgK.one {k : Nat} {v : AV} {ks : List (Nat × AV)} {s : List AV} (h : AgK ((k, v) :: ks) s) : s.getD k .undef = v := h _ (List.mem_cons_self ..)
theorem AgK.tl {p : Nat × AV} {ks : List (Nat × AV)} {s : List AV} (h : AgK (p :: ks) s) : AgK ks s := fun q hq => h q (List.mem_cons_of_mem _ hq)
/-- sparse slots: what is looked up -/
theorem AgK.ofS {df : AV} {l : SL} {N : Nat} {ks : List (Nat × AV)} (h : (ks.all fun p => Nat.blt p.1 N) = true) (hk : ∀ p ∈ ks, lookS df p.1 l = p.2) : AgK ks (mkS df l N 0) := fun p hp => by
  have h1 := List.all_eq_true.1 h p hp
  simp only [List.getD]
  rw [mkS_get _ _ _ _ _ (by simpa [Nat.blt_eq] using h1), Nat.zero_add, hk p hp]; rfl
theorem AgK.mk2 {df : AV} {l : SL} {N a b : Nat} {x y : AV} (ha : Nat.blt a N = true) (hx : lookS df a l = x) (hb : Nat.blt b N = true) (hy : lookS df b l = y) : AgK [(a, x), (b, y)] (mkS df l N 0) := AgK.ofS (by simp [ha, hb]) fun p hp => by
  simp only [List.mem_cons, List.not_mem_nil, or_false] at hp
  rcases hp with rfl | rfl <;> assumption
theorem AgK.mk3 {df : AV} {l : SL} {N a b c : Nat} {x y z : AV} (ha : Nat.blt a N = true) (hx : lookS df a l = x) (hb : Nat.blt b N = true) (hy : lookS df b l = y) (hc : Nat.blt c N = true) (hz : lookS df c l = z) : AgK [(a, x), (b, y), (c, z)] (mkS df l N 0) := AgK.ofS (by simp [ha, hb, hc]) fun p hp => by
  simp only [List.mem_cons, List.not_mem_nil, or_false] at hp
  rcases hp with rfl | rfl | rfl <;> assumption
end
end Go.Proofs.YthhfbolhlbgbgaaDoor

namespace Go.Proofs.YthhfbolhlbgbgaaDoor
open Go.RowKit
set_option linter.unusedSimpArgs false
set_option linter.unusedVariables false
section
variable {P : Program} {T : Tbl} {cp : Bool} {md : Region.Mode} {ops : Array Oper} {K : List AV → AH → Prop} {X : AV → AH → Prop}
/-- the chain, walked with the load's value known -/
def CHE (P : Program) (T : Tbl) (cp : Bool) (ops : Array Oper) (oi : Oper) (v : AV) (s0 : List AV) (l2 : List Oper) (K : List AV → AH → Prop) (X : AV → AH → Prop) : List Oper → List AV → AH → Prop
  | [], s, h => DW P T cp ops l2 s h K X
  | oc :: r, s, h => ESt P T oc s h (fun rv h' => Yg P T ops oi v s0 h' ∧ CHE P T cp ops oi v s0 l2 K X r (putA oc.dst rv s) h') X
def chainB (cp : Bool) (md : Region.Mode) (ops : Array Oper) (i : Nat) (ord2 : List Nat) : List Nat → Array Bool → Bool
  | [], listed => (Region.ready md ops listed).contains i && firstB cp md ops listed i && ordB cp md ops ord2 (listed.setIfInBounds i true)
  | c :: cs, listed => (Region.ready md ops listed).contains i && (Region.ready md ops listed).contains c && (Region.ready md ops listed).all (fun x => x == i || x == c) && !(i == c) &&
    (match ops[i]?, ops[c]? with | some oi, some oc => effK cp oc && oi.apart ops oc | _, _ => false) && ordB cp md ops (c :: (cs ++ ord2)) (listed.setIfInBounds i true) && chainB cp md ops i ord2 cs (listed.setIfInBounds c true)
theorem CHE.dw {oi : Oper} {v : AV} {s0 : List AV} {l2 : List Oper} : ∀ (ocs : List Oper) (s : List AV) (h : AH), (∀ o ∈ ocs, effK cp o = true) → CHE P T cp ops oi v s0 l2 K X ocs s h → DW P T cp ops (ocs ++ l2) s h K X
  | [], s, h, _, H => H
  | oc :: r, s, h, he, H => by
    have H : ESt P T oc s h (fun rv h' => Yg P T ops oi v s0 h' ∧ CHE P T cp ops oi v s0 l2 K X r (putA oc.dst rv s) h') X := H
    show DW P T cp ops (oc :: (r ++ l2)) s h K X
    unfold DW
    rw [if_pos (he _ (List.mem_cons_self ..))]
    exact H.monoN fun rv h' hh => CHE.dw r _ _ (fun o ho => he o (List.mem_cons_of_mem _ ho)) hh.2
theorem AAny.chain {i : Nat} {oi : Oper} {v : AV} {s0 : List AV} {ord2 : List Nat} {l2 : List Oper} (hi : ops[i]? = some oi) (hni : effK cp oi = false) (hlo : hiK oi = false) (hl : l2.length = ord2.length) (hmap : ∀ (n i : Nat), ord2[n]? = some i → l2[n]? = ops[i]?) :
    ∀ (cs : List Nat) (ocs : List Oper) (listed : Array Bool) (s : List AV) (h : AH), ocs.length = cs.length → (∀ (n c : Nat), cs[n]? = some c → ocs[n]? = ops[c]?) → DC md ops listed → chainB cp md ops i ord2 cs listed = true → (∀ h, Yg P T ops oi v s0 h → Yg P T ops oi v s h) → Yg P T ops oi v s0 h →
      CHE P T cp ops oi v s0 l2 K X ocs (putA oi.dst v s) h → AAny P T cp md ops K X (cs.length + (ord2.length + 1)) listed s h
  | [], ocs, listed, s, h, hlen, _, hdc, hB, hys, hy, H => by
    obtain rfl : ocs = [] := List.eq_nil_of_length_eq_zero hlen
    simp only [chainB, Bool.and_eq_true] at hB
    obtain ⟨⟨h1, h2⟩, h3⟩ := hB
    have hri : i ∈ Region.ready md ops listed := by simpa using h1
    rw [List.length_nil, Nat.zero_add]
    exact AAny.first hi hni ord2.length listed s h hdc (firstB_spec hi h2) hri (hys _ hy) (fun hh => (by rw [hlo] at hh; cases hh)) (DW.any ord2 l2 _ _ _ hl hmap (hdc.step hri) h3 H)
  | c :: cs, [], _, _, _, hlen, _, _, _, _, _, _ => by simp at hlen
  | c :: cs, oc :: ocs, listed, s, h, hlen, hcm, hdc, hB, hys, hy, H => by
    have hc : ops[c]? = some oc := (hcm 0 c rfl).symm
    have hBc := hB
    unfold chainB at hB
    rw [hi, hc] at hB
    simp only [Bool.and_eq_true, Bool.not_eq_true'] at hB
    obtain ⟨⟨⟨⟨⟨⟨h1, h2⟩, h3⟩, h4⟩, hec, hap⟩, hBA⟩, hBC⟩ := hB
    have hri : i ∈ Region.ready md ops listed := by simpa using h1
    have hrc : c ∈ Region.ready md ops listed := by simpa using h2
    obtain ⟨a1, a2, a3⟩ := Oper.apart_spec hap
    have hcm' : ∀ (n c : Nat), cs[n]? = some c → ocs[n]? = ops[c]? := fun n k e => by simpa using hcm (n + 1) k (by simpa using e)
    have hlen' : ocs.length = cs.length := by simpa using hlen
    have heff : ∀ o ∈ oc :: ocs, effK cp o = true := by
      -- each chain member is an effect, by the check
      have key : ∀ (cs : List Nat) (ocs : List Oper) (listed : Array Bool), ocs.length = cs.length → (∀ (n c : Nat), cs[n]? = some c → ocs[n]? = ops[c]?) → chainB cp md ops i ord2 cs listed = true → ∀ o ∈ ocs, effK cp o = true := by
        intro cs
        induction cs with
        | nil => intro ocs _ hl _ _ o ho; rw [List.eq_nil_of_length_eq_zero hl] at ho; cases ho
        | cons c cs ih =>
          intro ocs listed hl hm hB o ho
          cases ocs with
          | nil => cases ho
          | cons oc ocs =>
            have hc : ops[c]? = some oc := (hm 0 c rfl).symm
            unfold chainB at hB
            rw [hi, hc] at hB
            simp only [Bool.and_eq_true] at hB
            rcases List.mem_cons.1 ho with rfl | ho
            · exact hB.1.1.2.1
            · exact ih ocs _ (by simpa using hl) (fun n k e => by simpa using hm (n + 1) k (by simpa using e)) hB.2 o ho
      exact key (c :: cs) (oc :: ocs) listed hlen hcm hBc
    rw [List.length_cons, Nat.succ_add]
    refine ⟨fun h0 => (by rw [h0] at hri; cases hri), fun x hx => ?_⟩
    have hxc : x = i ∨ x = c := by simpa using List.all_eq_true.1 h3 x hx
    rcases hxc with rfl | rfl
    · unfold aOp
      rw [hi]
      dsimp only
      rw [if_neg (by rw [hni]; simp)]
      refine ⟨v, hys _ hy, fun hh => (by rw [hlo] at hh; cases hh), ?_⟩
      have := DW.any (c :: (cs ++ ord2)) (oc :: (ocs ++ l2)) _ _ _ (by simp [hl, hlen']) (fun n k e => by
        match n with
        | 0 => simp at e; subst e; simp [hc]
        | n + 1 =>
          simp only [List.getElem?_cons_succ] at e ⊢
          rcases Nat.lt_or_ge n cs.length with hn | hn
          · rw [List.getElem?_append_left hn] at e
            rw [List.getElem?_append_left (by omega)]
            exact hcm' n k e
          · rw [List.getElem?_append_right hn] at e
            rw [List.getElem?_append_right (by omega), hlen']
            exact hmap _ k e) (hdc.step hri) hBA (CHE.dw (oc :: ocs) _ _ heff H)
      have e1 : (c :: (cs ++ ord2)).length = cs.length + (ord2.length + 1) := by simp; omega
      rw [e1] at this
      exact this
    · unfold aOp
      rw [hc]
      dsimp only
      rw [if_pos hec]
      have H : ESt P T oc (putA oi.dst v s) h (fun rv h' => Yg P T ops oi v s0 h' ∧ CHE P T cp ops oi v s0 l2 K X ocs (putA oc.dst rv (putA oi.dst v s)) h') X := H
      refine ESt.unput (ops := ops) a1 H fun r h' hh => ?_
      obtain ⟨hy', hD⟩ := hh
      refine AAny.chain hi hni hlo hl hmap cs ocs _ _ _ hlen' hcm' (hdc.step hx) hBC (fun h hh => (hys h hh).put a3) hy' ?_
      rw [putA_comm a2]
      exact hD
/-- the chain, as the walk sees it -/
def CHL (P : Program) (T : Tbl) (ops : Array Oper) (oi : Oper) (v : AV) (s0 : List AV) (l2 : List Oper) (K : List AV → AH → Prop) (X : AV → AH → Prop) : List Oper → List AV → AH → Prop
  | [], s, h => lvc P T false ops l2 s h K X
  | oc :: r, s, h => DW P T false ops [oc] s h (fun s2 h2 => okV (opP P oi.op (ev T s0) h2) v ∧ CHL P T ops oi v s0 l2 K X r s2 h2) X
theorem CHL.che {oi : Oper} {v : AV} {s0 : List AV} {l2 : List Oper} (hg : oi.guard = none) : ∀ (ocs : List Oper) (s : List AV) (h : AH), (∀ o ∈ ocs, effK false o = true) → CHL P T ops oi v s0 l2 K X ocs s h → CHE P T false ops oi v s0 l2 K X ocs s h
  | [], s, h, _, H => lvc_ok _ _ _ H
  | oc :: r, s, h, he, H => by
    have H : DW P T false ops [oc] s h (fun s2 h2 => okV (opP P oi.op (ev T s0) h2) v ∧ CHL P T ops oi v s0 l2 K X r s2 h2) X := H
    show ESt P T oc s h _ X
    unfold DW at H
    rw [if_pos (he _ (List.mem_cons_self ..))] at H
    refine H.monoN fun rv h' hh => ?_
    unfold DW at hh
    exact ⟨Yg.of_okV hg hh.1, CHL.che hg r _ _ (fun o ho => he o (List.mem_cons_of_mem _ ho)) hh.2⟩
def ordOkC (ops : List Oper) (ord1 : List Nat) (i : Nat) (cs ord2 : List Nat) : Bool :=
  let A := ops.toArray
  let L0 := Array.replicate ops.length false
  let L1 := lst ord1 L0
  ord1.length + (cs.length + (ord2.length + 1)) == ops.length && ord1.all (fun i => decide (i < ops.length)) && ord2.all (fun i => decide (i < ops.length)) && cs.all (fun i => decide (i < ops.length)) && ordPre false .any A ord1 L0 &&
  (match ops[i]? with | some oi => !effK false oi && !hiK oi && oi.guard.isNone | none => false) && cs.all (fun c => match ops[c]? with | some oc => effK false oc | none => false) && chainB false .any A i ord2 cs L1
theorem AWp.drawC {id : Nat} {l : List Oper} {Q : AQ} {sl : List AV} {h : AH} (ks : List (Nat × AV)) (hag : AgK ks sl) (hok : agOk ks l = true) (ord1 : List Nat) (i : Nat) (cs ord2 : List Nat) {oi : Oper} (hm : P.follows .mixedOrders = true) (hB : ordOkC l ord1 i cs ord2 = true) (hi : l[i]? = some oi)
    (H : lvc P T false l.toArray (pick l ord1) sl h (fun s1 h1 => ∃ v, okV (opP P oi.op (ev T s1) h1) v ∧ CHL P T l.toArray oi v s1 (pick l ord2) (fun s h => Q .normal s h) (fun p h => ∀ s, AgK ks s → Q (.pan p) s h) (pick l cs) (putA oi.dst v s1) h1) (fun p h => ∀ s, AgK ks s → Q (.pan p) s h)) :
    AWp P T (.region id l.toArray true) Q sl h := by
  simp only [ordOkC, hi, Bool.and_eq_true, beq_iff_eq, Bool.not_eq_true', Option.isNone_iff_eq_none] at hB
  obtain ⟨⟨⟨⟨⟨⟨⟨hlen, hall1⟩, hall2⟩, hall3⟩, hpre⟩, ⟨⟨k1, k5⟩, k6⟩⟩, hce⟩, hch⟩ := hB
  have hlt1 : ∀ i ∈ ord1, i < l.length := fun i hi => by simpa using List.all_eq_true.1 hall1 i hi
  have hlt2 : ∀ i ∈ ord2, i < l.length := fun i hi => by simpa using List.all_eq_true.1 hall2 i hi
  have hlt3 : ∀ i ∈ cs, i < l.length := fun i hi => by simpa using List.all_eq_true.1 hall3 i hi
  obtain ⟨p1, p2⟩ := pick_spec hlt1
  obtain ⟨q1, q2⟩ := pick_spec hlt2
  obtain ⟨r1, r2⟩ := pick_spec hlt3
  have heff : ∀ o ∈ pick l cs, effK false o = true := fun o ho => by
    obtain ⟨n, hn⟩ := List.mem_iff_getElem?.1 ho
    have hnl : n < cs.length := by rw [← r1]; exact (List.getElem?_eq_some_iff.1 hn).1
    have h2 := r2 n cs[n] (List.getElem?_eq_getElem hnl)
    rw [hn] at h2
    have h3 := List.all_eq_true.1 hce cs[n] (List.getElem_mem hnl)
    rw [← h2] at h3
    exact h3
  have hdc0 : DC .any l.toArray (Array.replicate l.length false) := fun j o _ hj => by
    simp [Array.getElem?_replicate] at hj
    split at hj <;> simp at hj
  refine AWp.of_liftA ks fun G w a S R => wp_region_any hm ?_
  have hany := DW.anyP (P := P) (T := T) (cp := false) (K := fun s h => Q .normal s h) (X := fun p h => ∀ s, AgK ks s → Q (.pan p) s h) (fuel := cs.length + (ord2.length + 1)) ord1 (pick l ord1) (Array.replicate l.length false) sl h p1 (fun n i e => by rw [p2 n i e]; simp) hdc0 hpre
    (DW.monoK (fun s1 h1 hh => by
      obtain ⟨v, e1, D⟩ := hh
      exact AAny.chain (by simpa using hi) k1 k5 q1 (fun n i e => by rw [q2 n i e]; simp) cs (pick l cs) _ s1 h1 r1 (fun n c e => by rw [r2 n c e]; simp) (hdc0.lst (cp := false) ord1 hpre) hch (fun _ hh => hh) (Yg.of_okV k6 e1) (CHL.che k6 _ _ _ heff D)) _ _ _ (lvc_ok _ _ _ H))
  rw [hlen] at hany
  have := AAny.wpA (ops := l.toArray) (by simpa using hok) _ _ _ _ hag hany G G w.drew a a.defers (Gle.refl G) S.drew R rfl
  simpa using this
theorem AWp.dsC {id : Nat} {l : List Oper} {y : Code} {Q : AQ} {sl : List AV} {h : AH} (ks : List (Nat × AV)) (hag : AgK ks sl) (hok : agOk ks l = true) (ord1 : List Nat) (i : Nat) (cs ord2 : List Nat) {oi : Oper} (hm : P.follows .mixedOrders = true) (hB : ordOkC l ord1 i cs ord2 = true) (hi : l[i]? = some oi)
    (H : ∀ K : List AV → AH → Prop, (∀ s h, AWp P T y Q s h → K s h) → lvc P T false l.toArray (pick l ord1) sl h (fun s1 h1 => ∃ v, okV (opP P oi.op (ev T s1) h1) v ∧ CHL P T l.toArray oi v s1 (pick l ord2) K (fun p h => ∀ s, AgK ks s → Q (.pan p) s h) (pick l cs) (putA oi.dst v s1) h1) (fun p h => ∀ s, AgK ks s → Q (.pan p) s h)) :
    AWp P T (.seq (.region id l.toArray true) y) Q sl h := AWp.seq fun K hK => AWp.drawC ks hag hok ord1 i cs ord2 hm hB hi (H K hK)
theorem AWp.dkC {id : Nat} {l : List Oper} {Q : AQ} {sl : List AV} {h : AH} (ks : List (Nat × AV)) (hag : AgK ks sl) (hok : agOk ks l = true) (ord1 : List Nat) (i : Nat) (cs ord2 : List Nat) {oi : Oper} (hm : P.follows .mixedOrders = true) (hB : ordOkC l ord1 i cs ord2 = true) (hi : l[i]? = some oi)
    (H : ∀ K : List AV → AH → Prop, (∀ s h, Q .normal s h → K s h) → lvc P T false l.toArray (pick l ord1) sl h (fun s1 h1 => ∃ v, okV (opP P oi.op (ev T s1) h1) v ∧ CHL P T l.toArray oi v s1 (pick l ord2) K (fun p h => ∀ s, AgK ks s → Q (.pan p) s h) (pick l cs) (putA oi.dst v s1) h1) (fun p h => ∀ s, AgK ks s → Q (.pan p) s h)) :
    AWp P T (.region id l.toArray true) Q sl h := AWp.drawC ks hag hok ord1 i cs ord2 hm hB hi (H _ fun _ _ h => h)
theorem AgK.nil {s : List AV} : AgK [] s := fun p hp => by cases hp
end
attribute [go_sem] CHL
@[go_sem] theorem size_iteA (l : List UInt8) (a b : AV) (h : l.length ≤ 4096) : (if l.toArray.size ≤ maxLen then a else b) = a := by
  rw [if_pos]
  have : (4096 : Nat) ≤ maxLen := by decide
  simp; omega
end Go.Proofs.YthhfbolhlbgbgaaDoor

namespace Go.Proofs.YthhfbolhlbgbgaaDoor
open Go.RowKit
set_option linter.unusedSimpArgs false
set_option linter.unusedVariables false
section
variable {P : Program} {T : Tbl} {c : Code} {Q : AQ} {h : AH}
theorem AWp.wkH {sl : List AV} (o : List (Nat × Ob)) (hl : LeObs h.objs o) (H : AWp P T c Q sl ⟨o, h.live⟩) : AWp P T c Q sl h := H.leH (LeH.obs hl)
theorem AWp.wkS {N : Nat} {l : SL} (l' : SL) (hl : LeSl l l') (H : AWp P T c Q (mkS .any l' N 0) h) : AWp P T c Q (mkS .any l N 0) h := fun G w a S R => H G w a S (R.leSl hl)
end
end Go.Proofs.YthhfbolhlbgbgaaDoor

namespace Go.Proofs.YthhfbolhlbgbgaaDoor
open Go.RowKit
set_option linter.unusedSimpArgs false
set_option linter.unusedVariables false
section
variable {P : Program} {T : Tbl} {cp : Bool} {md : Region.Mode} {ops : Array Oper} {K : List AV → AH → Prop} {X : AV → AH → Prop}
theorem AAny.free {i : Nat} {oi : Oper} {v : AV} (hi : ops[i]? = some oi) (hni : effK cp oi = false) : ∀ (fuel : Nat) (listed : Array Bool) (sl : List AV) (h : AH), DC md ops listed →
    (∀ j oj, ops[j]? = some oj → j ≠ i → listed.getD j true = false → waits md ops ops.size j i = false → oi.apart ops oj = true) →
    i ∈ Region.ready md ops listed → (∀ h', Yg P T ops oi v sl h') →
    AAny P T cp md ops K X fuel (listed.setIfInBounds i true) (putA oi.dst v sl) h → AAny P T cp md ops K X (fuel + 1) listed sl h := by
  intro fuel
  induction fuel with
  | zero =>
    intro listed sl h hdc _ hr hy H
    refine ⟨fun h0 => (by rw [h0] at hr; cases hr), fun j hj => ?_⟩
    by_cases hji : j = i
    · subst hji
      unfold aOp
      rw [hi]
      dsimp only
      rw [if_neg (by rw [hni]; simp)]
      exact ⟨v, hy h, fun _ => hy, H⟩
    · have := ready_mono hj hji
      rw [H.1] at this
      cases this
  | succ fuel ih =>
    intro listed sl h hdc hfree hr hy H
    refine ⟨fun h0 => (by rw [h0] at hr; cases hr), fun j hj => ?_⟩
    by_cases hji : j = i
    · subst hji
      unfold aOp
      rw [hi]
      dsimp only
      rw [if_neg (by rw [hni]; simp)]
      exact ⟨v, hy h, fun _ => hy, H⟩
    · have h1 := H.2 j (ready_mono hj hji)
      obtain ⟨hjun, oj, hoj, hall⟩ := mem_ready.1 hj
      have hiun := getD_false_of (mem_ready.1 hr).1
      have hap := hfree j oj hoj hji hjun (waits_listed hdc hiun _ _ _ hoj hall)
      obtain ⟨a1, a2, a3⟩ := Oper.apart_spec hap
      have hfree' : ∀ k ok, ops[k]? = some ok → k ≠ i → (listed.setIfInBounds j true).getD k true = false → waits md ops ops.size k i = false → oi.apart ops ok = true := fun k ok hk hki hun hw => by
        refine hfree k ok hk hki ?_ hw
        by_cases hjk : j = k
        · subst hjk; exact hjun
        · rw [getD_set_ne true hjk] at hun; exact hun
      have next : ∀ (u : AV) (h' : AH), AAny P T cp md ops K X fuel ((listed.setIfInBounds i true).setIfInBounds j true) (putA oj.dst u (putA oi.dst v sl)) h' → AAny P T cp md ops K X (fuel + 1) (listed.setIfInBounds j true) (putA oj.dst u sl) h' := fun u h' hN => by
        refine ih (listed.setIfInBounds j true) (putA oj.dst u sl) h' (hdc.step hj) hfree' (ready_mono hr (Ne.symm hji)) (fun h2 => (hy h2).put a3) ?_
        rw [Array.setIfInBounds_comm _ _ hji, putA_comm a2]
        exact hN
      unfold aOp at h1 ⊢
      rw [hoj] at h1 ⊢
      dsimp only at h1 ⊢
      split
      · rename_i he
        rw [if_pos he] at h1
        exact h1.unput a1 fun r h' hN => next r h' hN
      · rename_i he
        rw [if_neg he] at h1
        obtain ⟨u, g1, g2, g3⟩ := h1
        exact ⟨u, g1.unput a1, fun hk h2 => (g2 hk h2).unput a1, next u h g3⟩
def freeB (md : Region.Mode) (ops : Array Oper) (listed : Array Bool) (i : Nat) : Bool :=
  match ops[i]? with
  | some oi => (List.range ops.size).all fun j => j == i || listed.getD j true || waits md ops ops.size j i || (match ops[j]? with
    | some oj => oi.apart ops oj
    | none => true)
  | none => false
theorem freeB_spec {listed : Array Bool} {i : Nat} {oi : Oper} (hi : ops[i]? = some oi) (h : freeB md ops listed i = true) :
    ∀ j oj, ops[j]? = some oj → j ≠ i → listed.getD j true = false → waits md ops ops.size j i = false → oi.apart ops oj = true := by
  intro j oj hj hji hun hw
  unfold freeB at h
  rw [hi] at h
  dsimp only at h
  have := List.all_eq_true.1 h j (List.mem_range.2 (Array.getElem?_eq_some_iff.1 hj).1)
  rw [hj, hun, hw] at this
  have hne : (j == i) = false := by simpa using hji
  rw [hne] at this
  simpa using this
/-- the free loads, one behind the other -/
def FRL (P : Program) (T : Tbl) (K : List AV → Prop) : List Oper → List AV → Prop
  | [], s => K s
  | o :: r, s => ∃ v, (∀ h', okV (opP P o.op (ev T s) h') v) ∧ FRL P T K r (putA o.dst v s)
def ordF (cp : Bool) (md : Region.Mode) (ops : Array Oper) (ord2 : List Nat) : List Nat → Array Bool → Bool
  | [], listed => ordB cp md ops ord2 listed
  | i :: r, listed => (Region.ready md ops listed).contains i && (match ops[i]? with
    | some o => !effK cp o && o.guard.isNone
    | none => false) && freeB md ops listed i && ordF cp md ops ord2 r (listed.setIfInBounds i true)
theorem AAny.frl {ord2 : List Nat} {l2 : List Oper} (hl : l2.length = ord2.length) (hmap : ∀ (n i : Nat), ord2[n]? = some i → l2[n]? = ops[i]?) {h : AH} :
    ∀ (fr : List Nat) (lf : List Oper) (listed : Array Bool) (s : List AV), lf.length = fr.length → (∀ (n i : Nat), fr[n]? = some i → lf[n]? = ops[i]?) → DC md ops listed → ordF cp md ops ord2 fr listed = true →
      FRL P T (fun s => DW P T cp ops l2 s h K X) lf s → AAny P T cp md ops K X (fr.length + ord2.length) listed s h
  | [], [], listed, s, _, _, hdc, hB, H => by
    rw [List.length_nil, Nat.zero_add]
    exact DW.any ord2 l2 listed s h hl hmap hdc hB H
  | [], _ :: _, _, _, hlen, _, _, _, _ => by simp at hlen
  | _ :: _, [], _, _, hlen, _, _, _, _ => by simp at hlen
  | i :: fr, o :: lf, listed, s, hlen, hm, hdc, hB, H => by
    have hi : ops[i]? = some o := (hm 0 i rfl).symm
    unfold ordF at hB
    rw [hi] at hB
    simp only [Bool.and_eq_true, Bool.not_eq_true', Option.isNone_iff_eq_none] at hB
    obtain ⟨⟨⟨hr, he, hg⟩, hf⟩, hB⟩ := hB
    have hr : i ∈ Region.ready md ops listed := by simpa using hr
    obtain ⟨v, hv, H⟩ := H
    rw [List.length_cons, Nat.succ_add]
    exact AAny.free hi he _ listed s h hdc (freeB_spec hi hf) hr (fun h' => Yg.of_okV hg (hv h')) (AAny.frl hl hmap fr lf _ _ (by simpa using hlen) (fun n k e => by simpa using hm (n + 1) k (by simpa using e)) (hdc.step hr) hB H)
def ordOkF (cp : Bool) (ops : List Oper) (ord1 fr ord2 : List Nat) : Bool :=
  let A := ops.toArray
  let L0 := Array.replicate ops.length false
  let L1 := lst ord1 L0
  ord1.length + (fr.length + ord2.length) == ops.length && ord1.all (fun i => decide (i < ops.length)) && ord2.all (fun i => decide (i < ops.length)) && fr.all (fun i => decide (i < ops.length)) && ordPre cp .any A ord1 L0 && ordF cp .any A ord2 fr L1
theorem FRL.mono {K K' : List AV → Prop} (hK : ∀ s, K s → K' s) : ∀ {lf : List Oper} {s : List AV}, FRL P T K lf s → FRL P T K' lf s
  | [], s, H => hK s H
  | _ :: _, _, ⟨v, hv, H⟩ => ⟨v, hv, FRL.mono hK H⟩
theorem AWp.drawF {id : Nat} {l : List Oper} {Q : AQ} {sl : List AV} {h : AH} (cp : Bool) (ord1 fr ord2 : List Nat) (hm : P.follows .mixedOrders = true) (hB : ordOkF cp l ord1 fr ord2 = true)
    (H : lvc P T cp l.toArray (pick l ord1) sl h (fun s1 h1 => FRL P T (fun s2 => lvc P T cp l.toArray (pick l ord2) s2 h1 (fun s h => Q .normal s h) (fun p h => ∀ s, Q (.pan p) s h)) (pick l fr) s1) (fun p h => ∀ s, Q (.pan p) s h)) :
    AWp P T (.region id l.toArray true) Q sl h := by
  simp only [ordOkF, Bool.and_eq_true, beq_iff_eq] at hB
  obtain ⟨⟨⟨⟨⟨hlen, hall1⟩, hall2⟩, hall3⟩, hpre⟩, hch⟩ := hB
  have hlt1 : ∀ i ∈ ord1, i < l.length := fun i hi => by simpa using List.all_eq_true.1 hall1 i hi
  have hlt2 : ∀ i ∈ ord2, i < l.length := fun i hi => by simpa using List.all_eq_true.1 hall2 i hi
  have hlt3 : ∀ i ∈ fr, i < l.length := fun i hi => by simpa using List.all_eq_true.1 hall3 i hi
  obtain ⟨p1, p2⟩ := pick_spec hlt1
  obtain ⟨q1, q2⟩ := pick_spec hlt2
  obtain ⟨r1, r2⟩ := pick_spec hlt3
  have hdc0 : DC .any l.toArray (Array.replicate l.length false) := fun j o _ hj => by
    simp [Array.getElem?_replicate] at hj
    split at hj <;> simp at hj
  refine AWp.of_lift fun G w a S R => wp_region_any hm ?_
  have hany := DW.anyP (P := P) (T := T) (cp := cp) (K := fun s h => Q .normal s h) (X := fun p h => ∀ s, Q (.pan p) s h) (fuel := fr.length + ord2.length) ord1 (pick l ord1) (Array.replicate l.length false) sl h p1 (fun n i e => by rw [p2 n i e]; simp) hdc0 hpre
    (DW.monoK (fun s1 h1 hh => AAny.frl q1 (fun n i e => by rw [q2 n i e]; simp) fr (pick l fr) _ s1 r1 (fun n c e => by rw [r2 n c e]; simp) (hdc0.lst (cp := cp) ord1 hpre) hch (hh.mono fun s hs => lvc_ok _ _ _ hs)) _ _ _ (lvc_ok _ _ _ H))
  rw [hlen] at hany
  have := AAny.wp _ _ _ _ hany G G w.drew a a.defers (Gle.refl G) S.drew R rfl
  simpa using this
theorem AWp.dsF {id : Nat} {l : List Oper} {y : Code} {Q : AQ} {sl : List AV} {h : AH} (cp : Bool) (ord1 fr ord2 : List Nat) (hm : P.follows .mixedOrders = true) (hB : ordOkF cp l ord1 fr ord2 = true)
    (H : ∀ K : List AV → AH → Prop, (∀ s h, AWp P T y Q s h → K s h) → lvc P T cp l.toArray (pick l ord1) sl h (fun s1 h1 => FRL P T (fun s2 => lvc P T cp l.toArray (pick l ord2) s2 h1 K (fun p h => ∀ s, Q (.pan p) s h)) (pick l fr) s1) (fun p h => ∀ s, Q (.pan p) s h)) :
    AWp P T (.seq (.region id l.toArray true) y) Q sl h := AWp.seq fun K hK => AWp.drawF cp ord1 fr ord2 hm hB (H K hK)
theorem AWp.dkF {id : Nat} {l : List Oper} {Q : AQ} {sl : List AV} {h : AH} (cp : Bool) (ord1 fr ord2 : List Nat) (hm : P.follows .mixedOrders = true) (hB : ordOkF cp l ord1 fr ord2 = true)
    (H : ∀ K : List AV → AH → Prop, (∀ s h, Q .normal s h → K s h) → lvc P T cp l.toArray (pick l ord1) sl h (fun s1 h1 => FRL P T (fun s2 => lvc P T cp l.toArray (pick l ord2) s2 h1 K (fun p h => ∀ s, Q (.pan p) s h)) (pick l fr) s1) (fun p h => ∀ s, Q (.pan p) s h)) :
    AWp P T (.region id l.toArray true) Q sl h := AWp.drawF cp ord1 fr ord2 hm hB (H _ fun _ _ h => h)
end
attribute [go_sem] FRL
end Go.Proofs.YthhfbolhlbgbgaaDoor

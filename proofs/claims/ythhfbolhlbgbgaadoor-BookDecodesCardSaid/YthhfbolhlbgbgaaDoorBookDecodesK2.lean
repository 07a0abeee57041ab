/- Texts that the law BookDecodes rests on, packed. -/
import Derived.Test.YthhfbolhlbgbgaaDoorBookDecodesK1
namespace Go.Proofs.YthhfbolhlbgbgaaDoor
open Go.RowKit
set_option linter.unusedSimpArgs false
set_option linter.unusedVariables false
@[go_sem] theorem size_ite0 (a b : AV) : (if (#[] : Array UInt8).size ≤ maxLen then a else b) = a := if_pos (Nat.zero_le _)
@[go_sem] theorem size_ite1 (a b : AV) : (if (ByteArray.mk #[]).size ≤ maxLen then a else b) = a := if_pos (Nat.zero_le _)
section
variable {P : Program} {T : Tbl} {G : Gh} {h : AH} {w : World} {sl : List AV} {cp : Bool} {md : Region.Mode} {ops : Array Oper} {K : List AV → AH → Prop} {X : AV → AH → Prop}
theorem ADefer.leH {g : FuncId} {cap : List AV} {h' : AH} {m : Option AV} {R : AH → Prop} (p : LeH h h') (H : ADefer P T g cap h' m R) : ADefer P T g cap h m R := ⟨H.1, fun G w vs u S => H.2 G w vs u (p _ _ _ S)⟩
theorem ADefer.mono {g : FuncId} {cap : List AV} {m : Option AV} {R R' : AH → Prop} (H : ADefer P T g cap h m R) (hR : ∀ h, R h → R' h) : ADefer P T g cap h m R' :=
  ⟨H.1, fun G w vs u S Rs hu => (H.2 G w vs u S Rs hu).mono fun e u' w' ⟨h1, h2, h', G', h3, h4⟩ => ⟨h1, h2, h', G', hR _ h3, h4⟩⟩
/-- what is left behind the deferred closure -/
def dEnd (P : Program) (rs : List ResultVar) (s : List AV) (R : AR → AH → Prop) : AH → Prop := fun h' => ∃ r, resOf P s h' rs = some r ∧ ∃ r', LeA true r r' ∧ ∃ hc, LeH h' hc ∧ R (.ret r') hc
theorem endD_r {R : AR → AH → Prop} {rs : Array ResultVar} {s : List AV} {g : FuncId} {cap : List AV} (gs gt bs ts : List Nat) (H : ADefer P T g cap (ordH gs gt bs ts h) none (dEnd P rs.toList s R)) : endD P T rs R .ret (some (.fn g cap)) s h := H.leH (LeH.ord gs gt bs ts h)
theorem endD_n {R : AR → AH → Prop} {rs : Array ResultVar} {s : List AV} {g : FuncId} {cap : List AV} (gs gt bs ts : List Nat) (H : ADefer P T g cap (ordH gs gt bs ts h) none (dEnd P rs.toList s R)) : endD P T rs R .normal (some (.fn g cap)) s h := H.leH (LeH.ord gs gt bs ts h)
theorem endD_p {R : AR → AH → Prop} {rs : Array ResultVar} {s : List AV} {g : FuncId} {cap : List AV} {p : AV} (gs gt bs ts : List Nat) (H : ADefer P T g cap (ordH gs gt bs ts h) (some p) (dEnd P rs.toList s R)) : endD P T rs R (.pan p) (some (.fn g cap)) s h := H.leH (LeH.ord gs gt bs ts h)
theorem dEnd_mk {R : AR → AH → Prop} {rs : List ResultVar} {s : List AV} {r r' : AV} (gs gt bs ts : List Nat) (hr : resOf P s h rs = some r) (hR : R (.ret r') (ordH gs gt bs ts h)) (hle : LeA true r r') : dEnd P rs s R h := ⟨r, hr, r', hle, _, LeH.ord gs gt bs ts h, hR⟩
theorem AAny.lc0 {i c : Nat} {oi oc : Oper} {ord2 : List Nat} {l2 : List Oper} {listed : Array Bool} {s : List AV} {h : AH} {v : AV} (hi : ops[i]? = some oi) (hc : ops[c]? = some oc) (hni : effK cp oi = false) (hec : effK cp oc = true)
    (hdc : DC md ops listed) (hri : i ∈ Region.ready md ops listed) (hr : ∀ x ∈ Region.ready md ops listed, x = i ∨ x = c) (hrc : c ∈ Region.ready md ops listed) (hic : i ≠ c)
    (hap : oi.apart ops oc = true) (hl : l2.length = ord2.length) (hmap : ∀ (n i : Nat), ord2[n]? = some i → l2[n]? = ops[i]?)
    (hBA : ordB cp md ops (c :: ord2) (listed.setIfInBounds i true) = true) (hone : (Region.ready md ops (listed.setIfInBounds c true)).contains i = true) (hfi : firstB cp md ops (listed.setIfInBounds c true) i = true) (hBB : ordB cp md ops ord2 ((listed.setIfInBounds c true).setIfInBounds i true) = true)
    (hy : Yg P T ops oi v s h)
    (H : ESt P T oc (putA oi.dst v s) h (fun r h' => Yg P T ops oi v s h' ∧ DW P T cp ops l2 (putA oc.dst r (putA oi.dst v s)) h' K X) X)
    (hlo : hiK oi = false) : AAny P T cp md ops K X (ord2.length + 2) listed s h := by
  obtain ⟨a1, a2, a3⟩ := Oper.apart_spec hap
  refine ⟨fun h0 => (by rw [h0] at hri; cases hri), fun x hx => ?_⟩
  rcases hr x hx with rfl | rfl
  · unfold aOp
    rw [hi]
    dsimp only
    rw [if_neg (by rw [hni]; simp)]
    refine ⟨v, hy, fun hh => (by rw [hlo] at hh; cases hh), ?_⟩
    refine DW.any (c :: ord2) (oc :: l2) _ _ _ (by simp [hl]) (fun n k e => ?_) (hdc.step hri) hBA ?_
    · match n with
      | 0 => simp at e; subst e; simp [hc]
      | n + 1 => simp at e ⊢; exact hmap n k e
    · unfold DW
      rw [if_pos hec]
      exact ⟨H.1, fun G w a S hv Kc Q hK hX => H.2 G w a S hv Kc Q (fun r h' G' u' w' hr => hK r h' G' u' w' hr.2) hX⟩
  · unfold aOp
    rw [hc]
    dsimp only
    rw [if_pos hec]
    refine ESt.unput (ops := ops) a1 H fun r h' hh => ?_
    obtain ⟨hy', hD⟩ := hh
    have hri' : i ∈ Region.ready md ops (listed.setIfInBounds x true) := by simpa using hone
    have hdc2 : DC md ops ((listed.setIfInBounds x true).setIfInBounds i true) := (hdc.step hx).step hri'
    refine AAny.first hi hni (ord2.length) (listed.setIfInBounds x true) _ h' (hdc.step hx) (firstB_spec hi hfi) hri' (hy'.put a3) (fun hh => (by rw [hlo] at hh; cases hh)) ?_
    refine DW.any ord2 l2 _ _ _ hl hmap hdc2 hBB ?_
    rw [putA_comm a2]
    exact hD
def ordOkL0 (ops : List Oper) (ord1 : List Nat) (i c : Nat) (ord2 : List Nat) : Bool :=
  let A := ops.toArray
  let L0 := Array.replicate ops.length false
  let L1 := lst ord1 L0
  ord1.length + (ord2.length + 2) == ops.length && ord1.all (fun i => decide (i < ops.length)) && ord2.all (fun i => decide (i < ops.length)) && ordPre false .any A ord1 L0 &&
  (Region.ready .any A L1).contains i && (Region.ready .any A L1).contains c && (Region.ready .any A L1).all (fun x => x == i || x == c) && !(i == c) &&
  (match ops[i]?, ops[c]? with
    | some oi, some oc => !effK false oi && effK false oc && !hiK oi && oi.guard.isNone && oi.apart A oc
    | _, _ => false) &&
  ordB false .any A (c :: ord2) (L1.setIfInBounds i true) && (Region.ready .any A (L1.setIfInBounds c true)).contains i && firstB false .any A (L1.setIfInBounds c true) i && ordB false .any A ord2 ((L1.setIfInBounds c true).setIfInBounds i true)
theorem AWp.drawL0 {id : Nat} {l : List Oper} {Q : AQ} {sl : List AV} {h : AH} (ord1 : List Nat) (i c : Nat) (ord2 : List Nat) {oi oc : Oper} (hm : P.follows .mixedOrders = true) (hB : ordOkL0 l ord1 i c ord2 = true) (hi : l[i]? = some oi) (hc : l[c]? = some oc)
    (H : lvc P T false l.toArray (pick l ord1) sl h (fun s1 h1 => ∃ v, okV (opP P oi.op (ev T s1) h1) v ∧
      DW P T false l.toArray [oc] (putA oi.dst v s1) h1 (fun s2 h2 => okV (opP P oi.op (ev T s1) h2) v ∧ lvc P T false l.toArray (pick l ord2) s2 h2 (fun s h => Q .normal s h) (fun p h => ∀ s, Q (.pan p) s h)) (fun p h => ∀ s, Q (.pan p) s h)) (fun p h => ∀ s, Q (.pan p) s h)) :
    AWp P T (.region id l.toArray true) Q sl h := by
  simp only [ordOkL0, hi, hc, Bool.and_eq_true, beq_iff_eq, Bool.not_eq_true', Option.isNone_iff_eq_none] at hB
  obtain ⟨⟨⟨⟨⟨⟨⟨⟨⟨⟨⟨⟨hlen, hall1⟩, hall2⟩, hpre⟩, hri⟩, hrc⟩, hrall⟩, hic⟩, ⟨⟨⟨⟨k1, k3⟩, k5⟩, k6⟩, k8⟩⟩, hBA⟩, hone⟩, hfi⟩, hBB⟩ := hB
  have hlt1 : ∀ i ∈ ord1, i < l.length := fun i hi => by simpa using List.all_eq_true.1 hall1 i hi
  have hlt2 : ∀ i ∈ ord2, i < l.length := fun i hi => by simpa using List.all_eq_true.1 hall2 i hi
  obtain ⟨p1, p2⟩ := pick_spec hlt1
  obtain ⟨q1, q2⟩ := pick_spec hlt2
  have hdc0 : DC .any l.toArray (Array.replicate l.length false) := fun j o _ hj => by
    simp [Array.getElem?_replicate] at hj
    split at hj <;> simp at hj
  refine AWp.of_lift fun G w a S R => wp_region_any hm ?_
  have hany := DW.anyP (P := P) (T := T) (cp := false) (K := fun s h => Q .normal s h) (X := fun p h => ∀ s, Q (.pan p) s h) (fuel := ord2.length + 2) ord1 (pick l ord1) (Array.replicate l.length false) sl h p1 (fun n i e => by rw [p2 n i e]; simp) hdc0 hpre
    (DW.monoK (fun s1 h1 hh => by
      obtain ⟨v, e1, D⟩ := hh
      unfold DW at D
      rw [if_pos k3] at D
      refine AAny.lc0 (oi := oi) (oc := oc) (l2 := pick l ord2) (by simpa using hi) (by simpa using hc) k1 k3 (hdc0.lst (cp := false) ord1 hpre) (by simpa using hri) (fun x hx => by simpa using List.all_eq_true.1 hrall x hx) (by simpa using hrc) (by simpa using hic) k8 q1 (fun n i e => by rw [q2 n i e]; simp) hBA hone hfi hBB
        (Yg.of_okV k6 e1) ?_ k5
      exact ⟨D.1, fun G w a S hv Kc Q hK hX => D.2 G w a S hv Kc Q (fun r h' G' u w' hr => hK r h' G' u w' ⟨Yg.of_okV k6 hr.1, lvc_ok _ _ _ hr.2⟩) hX⟩) _ _ _ (lvc_ok _ _ _ H))
  rw [hlen] at hany
  have := AAny.wp _ _ _ _ hany G G w.drew a a.defers (Gle.refl G) S.drew R rfl
  simpa using this
/-- such a region, and what is behind it -/
theorem AWp.dsL0 {id : Nat} {l : List Oper} {y : Code} {Q : AQ} {sl : List AV} {h : AH} (ord1 : List Nat) (i c : Nat) (ord2 : List Nat) {oi oc : Oper} (hm : P.follows .mixedOrders = true) (hB : ordOkL0 l ord1 i c ord2 = true) (hi : l[i]? = some oi) (hc : l[c]? = some oc)
    (H : ∀ K : List AV → AH → Prop, (∀ s h, AWp P T y Q s h → K s h) → lvc P T false l.toArray (pick l ord1) sl h (fun s1 h1 => ∃ v, okV (opP P oi.op (ev T s1) h1) v ∧
      DW P T false l.toArray [oc] (putA oi.dst v s1) h1 (fun s2 h2 => okV (opP P oi.op (ev T s1) h2) v ∧ lvc P T false l.toArray (pick l ord2) s2 h2 K (fun p h => ∀ s, Q (.pan p) s h)) (fun p h => ∀ s, Q (.pan p) s h)) (fun p h => ∀ s, Q (.pan p) s h)) :
    AWp P T (.seq (.region id l.toArray true) y) Q sl h :=
  AWp.seq fun K hK => AWp.drawL0 ord1 i c ord2 hm hB hi hc (H K hK)
/-- a call on an empty heap that returns is pure -/
theorem PCall.of_ac {f : FuncId} {args : List AV} {r0 r : AV} (H : ACalls P T f args ⟨[], []⟩ (fun x _ => x = .ret r0)) (hle : LeA false r0 r) : PCall P T f args r := by
  intro F w vs hF hT Rs
  have S : Sim T (gh0 w F) ⟨[], []⟩ w := ⟨Below.refl _ _, hT, hF, fun _ _ => rfl, by simp, by simp, by simp, by simp, by simp, by simp⟩
  refine (H (gh0 w F) w vs S Rs).mono ?_
  rintro e w' ⟨x, h', G', rfl, hG, S', v, rfl, hv⟩
  refine ⟨v, G'.frz, rfl, ?_, hG.frz, hG.new, S'.frz, ?_⟩
  · have := S'.below; rw [hG.base] at this; exact this
  · have := LeA.ok r0 r v hle hv
    exact this.mono2 (G := G'.keepT false) (G' := gh0 w G'.frz) (fun _ _ _ e => e) (fun t x e => by simp [Gh.keepT] at e)
theorem PC.of_ac {f : FuncId} {args : List AV} {r0 r : AV} (H : AC P T f args ⟨[], []⟩ (fun x _ => x = .ret r0)) (hle : LeA false r0 r) : PC P T f args r := ⟨H.call, PCall.of_ac H.run hle⟩
end
end Go.Proofs.YthhfbolhlbgbgaaDoor

namespace Go.Proofs.YthhfbolhlbgbgaaDoor
open Go.RowKit
set_option linter.unusedSimpArgs false
set_option linter.unusedVariables false
section
variable {P : Program} {T : Tbl} {G : Gh} {f : FuncId}
/-- a call that writes nothing that was there, and whose result holds no memory -/
theorem PC.old {args : List AV} {r : AV} (hcall : ∀ az w, (callFunc f az).run P w = .ok (.enter f az) w)
    (H : ∀ (F : Frz) (w : World) (vs : Array Value), (∀ b o u, F b o = some u → w.cell? ⟨b, o, none⟩ = some u) → (∀ g j x, (T g)[j]? = some x → ∃ u, F g j = some u ∧ VD F x u) → SlR (gh0 w F) args vs → Calls P f vs w fun e w' => ∃ v, e = .returned v ∧ Below w.heap.size w w' ∧ VR (gh0 w F) r v) : PC P T f args r := by
  refine ⟨hcall, fun F w vs hF hT R => (H F w vs hF hT R).mono ?_⟩
  rintro e w' ⟨v, rfl, hb, hv⟩
  refine ⟨v, F, rfl, hb, fun _ _ _ e => e, fun _ _ _ e => .inl e, fun b o u e => ?_, hv⟩
  have h1 := hF b o u e
  have hlt : b < w.heap.size := World.block_lt_of_cell? (w := w) (a := ⟨b, o, none⟩) h1
  rw [← h1]
  exact World.cell?_of_block (w := w) (a := ⟨b, o, none⟩) (hb.block b hlt)
theorem slr1 {a : AV} {vs : Array Value} (R : SlR G [a] vs) : ∃ v, vs = #[v] ∧ VR G a v := by
  obtain ⟨h1, h2⟩ := R
  obtain ⟨v, h3, h4⟩ := h2 0 a rfl
  refine ⟨v, ?_, h4⟩
  apply Array.ext_getElem?
  intro i
  cases i with
  | zero => simpa using h3
  | succ i => rw [Array.getElem?_eq_none (by rw [h1]; simp), Array.getElem?_eq_none (by simp)]
theorem slr2 {a b : AV} {vs : Array Value} (R : SlR G [a, b] vs) : ∃ v u, vs = #[v, u] ∧ VR G a v ∧ VR G b u := by
  obtain ⟨h1, h2⟩ := R
  obtain ⟨v, h3, h4⟩ := h2 0 a rfl
  obtain ⟨u, h5, h6⟩ := h2 1 b rfl
  refine ⟨v, u, ?_, h4, h6⟩
  apply Array.ext_getElem?
  intro i
  match i with
  | 0 => simpa using h3
  | 1 => simpa using h5
  | i + 2 => rw [Array.getElem?_eq_none (by rw [h1]; simp), Array.getElem?_eq_none (by simp)]
theorem slr3 {a b c : AV} {vs : Array Value} (R : SlR G [a, b, c] vs) : ∃ v u x, vs = #[v, u, x] ∧ VR G a v ∧ VR G b u ∧ VR G c x := by
  obtain ⟨h1, h2⟩ := R
  obtain ⟨v, h3, h4⟩ := h2 0 a rfl
  obtain ⟨u, h5, h6⟩ := h2 1 b rfl
  obtain ⟨x, h7, h8⟩ := h2 2 c rfl
  refine ⟨v, u, x, ?_, h4, h6, h8⟩
  apply Array.ext_getElem?
  intro i
  match i with
  | 0 => simpa using h3
  | 1 => simpa using h5
  | 2 => simpa using h7
  | i + 3 => rw [Array.getElem?_eq_none (by rw [h1]; simp), Array.getElem?_eq_none (by simp)]
theorem VR.agg_inv {l : List AV} {v : Value} (h : VR G (.agg l) v) : ∃ vs : Array Value, v = .agg vs ∧ SlR G l vs := by
  cases h with
  | agg _ vs hl h =>
    refine ⟨vs.toArray, rfl, by simpa using hl, fun i a e => ?_⟩
    have hi : i < vs.length := by rw [hl]; exact (List.getElem?_eq_some_iff.1 e).1
    exact ⟨vs[i], by simp [hi], h i a _ e (List.getElem?_eq_getElem hi)⟩
/-- the values of tables' first cells -/
theorem tbl_cell {F : Frz} {w : World} {g j : Nat} {x : D} (hF : ∀ b o u, F b o = some u → w.cell? ⟨b, o, none⟩ = some u) (hT : ∀ g j x, (T g)[j]? = some x → ∃ u, F g j = some u ∧ VD F x u) (h : (T g)[j]? = some x) : ∃ u, w.cell? ⟨g, j, none⟩ = some u ∧ VD F x u := by
  obtain ⟨u, h1, h2⟩ := hT g j x h
  exact ⟨u, hF _ _ _ h1, h2⟩
end
end Go.Proofs.YthhfbolhlbgbgaaDoor

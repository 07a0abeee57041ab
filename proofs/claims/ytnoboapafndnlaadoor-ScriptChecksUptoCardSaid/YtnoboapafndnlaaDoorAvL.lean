/- Ways that meet: what is known there says less. -/
import Derived.Test.YtnoboapafndnlaaDoorAvK
namespace Go.Proofs.YtnoboapafndnlaaDoor
variable {P : Program} {T : Tbl} {Q : AQ} {sl : List AV} {h : AH} {G : Gh} {w : World}
theorem LeL.get {kp : Bool} : ∀ {l l' : List AV}, LeL kp l l' → ∀ {i : Nat} {b : AV}, l'[i]? = some b → ∃ a, l[i]? = some a ∧ LeA kp a b
  | [], [], _, _, _, e => by simp at e
  | a :: l, b :: l', hl, i, x, e => by
    unfold LeL at hl
    cases i with
    | zero => simp only [List.getElem?_cons_zero, Option.some.injEq] at e; subst e; exact ⟨a, rfl, hl.1⟩
    | succ i => simp only [List.getElem?_cons_succ] at e ⊢; exact LeL.get hl.2 e
  | [], _ :: _, hl, _, _, _ => by simp [LeL] at hl
  | _ :: _, [], hl, _, _, _ => by simp [LeL] at hl
theorem LeA.okT {a b : AV} {v : Value} (hl : LeA true a b) (hv : VR G a v) : VR G b v := by
  have := LeA.ok a b v hl hv
  exact this
theorem SlR.le {l l' : List AV} {vs : Array Value} (R : SlR G l vs) (hl : LeL true l l') : SlR G l' vs := by
  refine ⟨R.1.trans hl.len, fun i b e => ?_⟩
  obtain ⟨a, ha, hab⟩ := hl.get e
  obtain ⟨v, h1, h2⟩ := R.2 i a ha
  exact ⟨v, h1, hab.okT h2⟩
def LeRows : List (List AV) → List (List AV) → Prop
  | [], [] => True
  | r :: l, r' :: l' => LeL true r r' ∧ r'.all AV.one = true ∧ LeRows l l'
  | _, _ => False
def LeObs : List (Nat × Ob) → List (Nat × Ob) → Prop
  | [], [] => True
  | p :: l, q :: l' => p.1 = q.1 ∧ p.2.k = q.2.k ∧ p.2.c = q.2.c ∧ LeRows p.2.rows q.2.rows ∧ LeObs l l'
  | _, _ => False
theorem LeRows.len : ∀ {l l' : List (List AV)}, LeRows l l' → l.length = l'.length
  | [], [], _ => rfl
  | _ :: _, _ :: _, hl => by unfold LeRows at hl; simp [LeRows.len hl.2.2]
  | [], _ :: _, hl => by simp [LeRows] at hl
  | _ :: _, [], hl => by simp [LeRows] at hl
theorem LeRows.get : ∀ {l l' : List (List AV)}, LeRows l l' → ∀ {i : Nat} {r' : List AV}, l'[i]? = some r' → ∃ r, l[i]? = some r ∧ LeL true r r' ∧ r'.all AV.one = true
  | [], [], _, _, _, e => by simp at e
  | a :: l, b :: l', hl, i, x, e => by
    unfold LeRows at hl
    cases i with
    | zero => simp only [List.getElem?_cons_zero, Option.some.injEq] at e; subst e; exact ⟨a, rfl, hl.1, hl.2.1⟩
    | succ i => simp only [List.getElem?_cons_succ] at e ⊢; exact LeRows.get hl.2.2 e
  | [], _ :: _, hl, _, _, _ => by simp [LeRows] at hl
  | _ :: _, [], hl, _, _, _ => by simp [LeRows] at hl
theorem ObR.le {b : Nat} {o o' : Ob} (hk : o.k = o'.k) (hc : o.c = o'.c) (hr : LeRows o.rows o'.rows) (R : ObR G w b o) : ObR G w b o' := by
  obtain ⟨vs, e, fz, h1, h2, h3, h4⟩ := R.mem
  refine ⟨R.low, R.free, ?_, ?_, hc ▸ R.cmax, vs, e, fz, h1, by rw [← hc, ← hk]; exact h2, h3, ?_⟩
  · intro r' hr'
    obtain ⟨i, hi⟩ := List.mem_iff_getElem?.1 hr'
    obtain ⟨r, hr1, hr2, _⟩ := hr.get hi
    rw [← hr2.len, ← hk]
    exact R.lenk r (List.mem_of_getElem? hr1)
  · rw [← hr.len, ← hc]; exact R.fits
  · intro i r' j a' e1 e2
    obtain ⟨r, hr1, hr2, hr3⟩ := hr.get e1
    obtain ⟨a, ha, hab⟩ := hr2.get e2
    obtain ⟨_, v, hv1, hv2⟩ := h4 i r j a hr1 ha
    exact ⟨List.all_eq_true.1 hr3 a' (List.mem_of_getElem? e2), v, hk ▸ hv1, hab.okT hv2⟩
theorem LeObs.fst : ∀ {l l' : List (Nat × Ob)}, LeObs l l' → l.map Prod.fst = l'.map Prod.fst
  | [], [], _ => rfl
  | p :: l, q :: l', hl => by unfold LeObs at hl; rw [List.map_cons, List.map_cons, hl.1, LeObs.fst hl.2.2.2.2]
  | [], _ :: _, hl => by simp [LeObs] at hl
  | _ :: _, [], hl => by simp [LeObs] at hl
theorem LeObs.obj : ∀ {l l' : List (Nat × Ob)}, LeObs l l' → (∀ p ∈ l, ObR G w p.1 p.2) → ∀ p ∈ l', ObR G w p.1 p.2
  | [], [], _, _ => fun p hp => by simp at hp
  | p :: l, q :: l', hl, H => by
    unfold LeObs at hl
    obtain ⟨h1, h2, h3, h4, h5⟩ := hl
    intro x hx
    rcases List.mem_cons.1 hx with rfl | hx
    · exact h1 ▸ ObR.le h2 h3 h4 (H p (List.mem_cons_self ..))
    · exact LeObs.obj h5 (fun y hy => H y (List.mem_cons_of_mem _ hy)) x hx
  | [], _ :: _, hl, _ => by simp [LeObs] at hl
  | _ :: _, [], hl, _ => by simp [LeObs] at hl
theorem Sim.le {o : List (Nat × Ob)} (S : Sim T G h w) (hl : LeObs h.objs o) : Sim T G ⟨o, h.live⟩ w :=
  ⟨S.below, S.glob, S.frz, S.fin, LeObs.obj hl S.obj, by rw [← hl.fst]; exact S.nd, S.liv, S.tdis, fun t ht g hg => by rw [← hl.fst]; exact S.todis t ht g hg, S.lnd⟩
/-- what is no longer of use is let go -/
theorem AWp.le {c : Code} (x y : Nat) {o : List (Nat × Ob)} {s : List AV} (h1 : LeObs (h.objs.drop x) o) (h2 : LeL true sl s) (H : AWp P T c Q s ⟨o, h.live.drop y⟩) : AWp P T c Q sl h :=
  fun G w a S R => H G w a ((S.drop (h' := ⟨h.objs.drop x, h.live.drop y⟩) (List.drop_sublist ..) (List.drop_sublist ..)).le h1) (R.le h2)
/-- many ways that meet -/
theorem AWp.join {x y : Code} (I : List AV → AH → Prop) (H : AWp P T x (thenQ (fun s h' => ∃ a b o s', LeObs (h'.objs.drop a) o ∧ LeL true s s' ∧ I s' ⟨o, h'.live.drop b⟩) Q) sl h) (H2 : ∀ s h', I s h' → AWp P T y Q s h') : AWp P T (.seq x y) Q sl h :=
  AWp.mid _ H fun _ _ ⟨a, b, _, _, h1, h2, hi⟩ => AWp.le a b h1 h2 (H2 _ _ hi)
end Go.Proofs.YtnoboapafndnlaaDoor

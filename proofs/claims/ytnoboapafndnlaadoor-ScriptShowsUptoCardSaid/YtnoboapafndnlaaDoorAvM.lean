/- Regions that draw their order: several walks, one for each order that matters. -/
import Derived.Test.YtnoboapafndnlaaDoorAvL
namespace Go.Proofs.YtnoboapafndnlaaDoor
open Go.RowKit
set_option linter.unusedVariables false
inductive Tr where
  | done
  | seg (i : Nat) (t : Tr)
  | many (r : Tr)
  | alt (i : Nat) (t r : Tr)
  | nil
section
variable {P : Program} {T : Tbl} {cp : Bool} {md : Region.Mode} {ops : Array Oper} {K : List AV → AH → Prop} {X : AV → AH → Prop}
def TW (P : Program) (T : Tbl) (cp : Bool) (ops : Array Oper) (K : List AV → AH → Prop) (X : AV → AH → Prop) : Tr → List AV → AH → Prop
  | .done, s, h => K s h
  | .seg i t, s, h => match ops[i]? with | some o => lvc P T cp ops [o] s h (TW P T cp ops K X t) X | none => False
  | .many r, s, h => TW P T cp ops K X r s h
  | .alt i t r, s, h => (match ops[i]? with | some o => lvc P T cp ops [o] s h (TW P T cp ops K X t) X | none => False) ∧ TW P T cp ops K X r s h
  | .nil, _, _ => True
def Tr.heads : Tr → List Nat
  | .alt i _ r => i :: r.heads
  | _ => []
def Tr.top : Tr → Bool
  | .done | .seg .. | .many _ => true
  | _ => false
def trOk (cp : Bool) (md : Region.Mode) (ops : Array Oper) : Tr → Nat → Array Bool → Bool
  | .done, n, l => n == 0 && (Region.ready md ops l).isEmpty
  | .seg i t, n + 1, l => (Region.ready md ops l).contains i && (match ops[i]? with
    | some o => if effK cp o = true then Region.ready md ops l == [i] else firstB cp md ops l i
    | none => false) && t.top && trOk cp md ops t n (l.setIfInBounds i true)
  | .many r, n + 1, l => !(Region.ready md ops l).isEmpty && (Region.ready md ops l).all (fun j => r.heads.contains j) && trOk cp md ops r (n + 1) l
  | .alt i t r, n + 1, l => t.top && (ops[i]?).isSome && trOk cp md ops t n (l.setIfInBounds i true) && trOk cp md ops r (n + 1) l
  | .nil, _, _ => true
  | _, _, _ => false
theorem one_aOp {i : Nat} {o : Oper} {N N' : List AV → AH → Prop} {sl : List AV} {h : AH} (hi : ops[i]? = some o) (H : lvc P T cp ops [o] sl h N X) (hN : ∀ s h, N s h → N' s h) : aOp P T cp ops X i N' sl h := by
  have H := lvc_ok _ _ _ H
  unfold aOp
  rw [hi]
  dsimp only
  unfold DW at H
  split at H
  · rename_i he
    rw [if_pos he]
    exact ⟨H.1, fun G w a S hv Kc Q hK hX => H.2 G w a S hv Kc Q (fun r h' G' u w' hr => hK r h' G' u w' (hN _ _ (by unfold DW at hr; exact hr))) hX⟩
  · rename_i he
    rw [if_neg he]
    obtain ⟨v, g1, g2, g3⟩ := H
    exact ⟨v, g1, g2, hN _ _ (by unfold DW at g3; exact g3)⟩
mutual
theorem TW.any : ∀ (t : Tr) (n : Nat) (listed : Array Bool) (sl : List AV) (h : AH), t.top = true → DC md ops listed → trOk cp md ops t n listed = true → TW P T cp ops K X t sl h → AAny P T cp md ops K X n listed sl h
  | .done, n, listed, sl, h, _, hdc, hB, H => by
    simp only [trOk, Bool.and_eq_true, beq_iff_eq, List.isEmpty_iff] at hB
    obtain ⟨rfl, hB⟩ := hB
    exact ⟨hB, H⟩
  | .seg i t, 0, listed, sl, h, _, hdc, hB, H => by simp [trOk] at hB
  | .seg i t, n + 1, listed, sl, h, _, hdc, hB, H => by
    unfold trOk at hB
    simp only [Bool.and_eq_true] at hB
    obtain ⟨⟨⟨hr, hf⟩, ht⟩, hB'⟩ := hB
    have hr : i ∈ Region.ready md ops listed := by simpa using hr
    cases ho : ops[i]? with
    | none => rw [ho] at hf; cases hf
    | some o =>
      rw [ho] at hf
      dsimp only at hf
      have H' : lvc P T cp ops [o] sl h (TW P T cp ops K X t) X := by unfold TW at H; rw [ho] at H; exact H
      have rest := fun sl h => TW.any t n (listed.setIfInBounds i true) sl h ht (hdc.step hr) hB'
      have ha : aOp P T cp ops X i (AAny P T cp md ops K X n (listed.setIfInBounds i true)) sl h := one_aOp ho H' fun s h => rest s h
      by_cases he : effK cp o = true
      · rw [if_pos he] at hf
        have hone : Region.ready md ops listed = [i] := by simpa using hf
        refine ⟨fun h0 => (by rw [h0] at hr; cases hr), fun j hj => ?_⟩
        rw [hone] at hj
        have hj : j = i := by simpa using hj
        subst hj
        exact ha
      · rw [if_neg he] at hf
        unfold aOp at ha
        rw [ho] at ha
        dsimp only at ha
        rw [if_neg he] at ha
        obtain ⟨v, g1, g2, g3⟩ := ha
        exact AAny.first ho (by simpa using he) n listed sl h hdc (firstB_spec ho hf) hr g1 g2 g3
  | .many r, 0, listed, sl, h, _, hdc, hB, H => by simp [trOk] at hB
  | .many r, n + 1, listed, sl, h, _, hdc, hB, H => by
    unfold trOk at hB
    simp only [Bool.and_eq_true, Bool.not_eq_true', List.all_eq_true] at hB
    obtain ⟨⟨h1, h2⟩, h3⟩ := hB
    unfold TW at H
    refine ⟨fun h0 => (by rw [h0] at h1; cases h1), fun j hj => TW.alts r n listed sl h hdc h3 H j (by simpa using h2 j hj) hj⟩
  | .alt i t r, _, _, _, _, h1, _, _, _ => by simp [Tr.top] at h1
  | .nil, _, _, _, _, h1, _, _, _ => by simp [Tr.top] at h1
theorem TW.alts : ∀ (r : Tr) (n : Nat) (listed : Array Bool) (sl : List AV) (h : AH), DC md ops listed → trOk cp md ops r (n + 1) listed = true → TW P T cp ops K X r sl h → ∀ j ∈ r.heads, j ∈ Region.ready md ops listed → aOp P T cp ops X j (AAny P T cp md ops K X n (listed.setIfInBounds j true)) sl h
  | .alt i t r, n, listed, sl, h, hdc, hB, H => by
    unfold trOk at hB
    simp only [Bool.and_eq_true] at hB
    obtain ⟨⟨⟨ht, hs⟩, h1⟩, h2⟩ := hB
    obtain ⟨o, ho⟩ := Option.isSome_iff_exists.1 hs
    unfold TW at H
    rw [ho] at H
    intro j hj hr
    by_cases hji : j = i
    · subst hji
      exact one_aOp ho H.1 fun s h => TW.any t n (listed.setIfInBounds j true) s h ht (hdc.step hr) h1
    · refine TW.alts r n listed sl h hdc h2 H.2 j ?_ hr
      unfold Tr.heads at hj
      exact (List.mem_cons.1 hj).resolve_left hji
  | .done, _, _, _, _, _, _, _ => fun j hj => by simp [Tr.heads] at hj
  | .seg .., _, _, _, _, _, _, _ => fun j hj => by simp [Tr.heads] at hj
  | .many _, _, _, _, _, _, _, _ => fun j hj => by simp [Tr.heads] at hj
  | .nil, _, _, _, _, _, _, _ => fun j hj => by simp [Tr.heads] at hj
end
def trB (cp : Bool) (l : List Oper) (t : Tr) : Bool := t.top && trOk cp .any l.toArray t l.length (Array.replicate l.length false)
theorem AWp.tree {id : Nat} {l : List Oper} {Q : AQ} {sl : List AV} {h : AH} (cp : Bool) (t : Tr) (hm : P.follows .mixedOrders = true) (hB : trB cp l t = true)
    (H : ∀ K : List AV → AH → Prop, (∀ s h, Q .normal s h → K s h) → TW P T cp l.toArray K (fun p h => ∀ s, Q (.pan p) s h) t sl h) : AWp P T (.region id l.toArray true) Q sl h := by
  simp only [trB, Bool.and_eq_true] at hB
  refine AWp.of_lift fun G w a S R => wp_region_any hm ?_
  have hany := TW.any (P := P) (T := T) (K := fun s h => Q .normal s h) (X := fun p h => ∀ s, Q (.pan p) s h) t l.length (Array.replicate l.length false) sl h hB.1 (fun j o _ hj => by
    simp [Array.getElem?_replicate] at hj
    split at hj <;> simp at hj) hB.2 (H _ fun _ _ h => h)
  have := AAny.wp _ _ _ _ hany G G w.drew a a.defers (Gle.refl G) S.drew R rfl
  simpa using this
theorem AWp.trees {id : Nat} {l : List Oper} {y : Code} {Q : AQ} {sl : List AV} {h : AH} (cp : Bool) (t : Tr) (hm : P.follows .mixedOrders = true) (hB : trB cp l t = true)
    (H : ∀ K : List AV → AH → Prop, (∀ s h, AWp P T y Q s h → K s h) → TW P T cp l.toArray K (fun p h => ∀ s, Q (.pan p) s h) t sl h) : AWp P T (.seq (.region id l.toArray true) y) Q sl h :=
  AWp.seq fun K hK => AWp.tree cp t hm hB fun K' hK' => H K' fun s h q => hK' s h (hK s h q)
end
end Go.Proofs.YtnoboapafndnlaaDoor

/- Abstract values: slots, kept as a short list; rules of control for them. -/
import Derived.Test.YtnoboapafndnlaaDoorAvN
namespace Go.Proofs.YtnoboapafndnlaaDoor
open Go.RowKit
set_option linter.unusedSimpArgs false
set_option linter.unusedVariables false
abbrev SL := List (Nat × AV)
/-- equality that no simplifier splits -/
structure EqS {α : Type} (a b : α) : Prop where
  e : a = b
def lookS (df : AV) (t : Nat) : SL → AV
  | [] => df
  | p :: l => if p.1 = t then p.2 else lookS df t l
def insS (t : Nat) (v : AV) : SL → SL
  | [] => [(t, v)]
  | p :: l => if p.1 = t then (t, v) :: l else if t < p.1 then (t, v) :: p :: l else p :: insS t v l
/-- n slots from number i on -/
def mkS (df : AV) (l : SL) : Nat → Nat → List AV
  | 0, _ => []
  | n + 1, i => lookS df i l :: mkS df l n (i + 1)
def maskS : List Bool → SL → SL
  | true :: m, p :: l => p :: maskS m l
  | false :: m, _ :: l => maskS m l
  | _, _ => []
theorem mkS_len (df : AV) (l : SL) : ∀ n i, (mkS df l n i).length = n
  | 0, _ => rfl
  | n + 1, i => by simp [mkS, mkS_len df l n (i + 1)]
theorem mkS_get (df : AV) (l : SL) : ∀ n i t, t < n → (mkS df l n i)[t]? = some (lookS df (i + t) l)
  | n + 1, i, 0, _ => by simp [mkS]
  | n + 1, i, t + 1, h => by
    simp only [mkS, List.getElem?_cons_succ]
    rw [mkS_get df l n (i + 1) t (by omega)]
    congr 2
    omega
  | 0, _, _, h => by omega
@[go_sem] theorem mkS_getD {df d : AV} {l : SL} {n t : Nat} (h : t < n) : (mkS df l n 0).getD t d = lookS df t l := by
  simp only [List.getD, mkS_get df l n 0 t h, Option.getD_some, Nat.zero_add]
theorem lookS_ins {df : AV} {t u : Nat} {v : AV} : ∀ l : SL, lookS df u (insS t v l) = if t = u then v else lookS df u l
  | [] => by simp only [insS, lookS]
  | p :: l => by
    unfold insS
    split
    · rename_i h
      simp only [lookS, h]
      split <;> rfl
    · split
      · simp only [lookS]
      · simp only [lookS]
        rw [lookS_ins l]
        by_cases h1 : p.1 = u
        · rw [if_pos h1, if_pos h1, if_neg (by omega)]
        · rw [if_neg h1, if_neg h1]
theorem mkS_set_aux {df : AV} {l : SL} {v : AV} : ∀ (n i t : Nat), (mkS df l n i).set t v = mkS df (insS (i + t) v l) n i := by
  intro n
  induction n with
  | zero => intro i t; simp [mkS]
  | succ n ih =>
    intro i t
    have hne : ∀ (n j : Nat), i + t < j → mkS df l n j = mkS df (insS (i + t) v l) n j := fun n => by
      induction n with
      | zero => intro j _; rfl
      | succ n ihn => intro j hj; simp only [mkS]; rw [lookS_ins, if_neg (by omega), ← ihn (j + 1) (by omega)]
    cases t with
    | zero =>
      simp only [mkS, List.set_cons_zero, Nat.add_zero]
      rw [lookS_ins, if_pos rfl]
      congr 1
      exact hne n (i + 1) (by omega)
    | succ t =>
      simp only [mkS, List.set_cons_succ]
      rw [lookS_ins, if_neg (by omega), ih (i + 1) t]
      congr 3
      omega
@[go_sem] theorem mkS_set {df : AV} {l : SL} {v : AV} {n t : Nat} : (mkS df l n 0).set t v = mkS df (insS t v l) n 0 := by
  rw [mkS_set_aux, Nat.zero_add]
@[go_sem] theorem lookS_nil (df : AV) (t : Nat) : lookS df t [] = df := rfl
@[go_sem] theorem lookS_cons (df : AV) (t i : Nat) (v : AV) (l : SL) : lookS df t ((i, v) :: l) = if i = t then v else lookS df t l := rfl
@[go_sem] theorem insS_nil (t : Nat) (v : AV) : insS t v [] = [(t, v)] := rfl
@[go_sem] theorem insS_cons (t i : Nat) (v u : AV) (l : SL) : insS t v ((i, u) :: l) = if i = t then (t, v) :: l else if t < i then (t, v) :: (i, u) :: l else (i, u) :: insS t v l := rfl
@[go_sem] theorem maskS_t (m : List Bool) (p : Nat × AV) (l : SL) : maskS (true :: m) (p :: l) = p :: maskS m l := rfl
@[go_sem] theorem maskS_f (m : List Bool) (p : Nat × AV) (l : SL) : maskS (false :: m) (p :: l) = maskS m l := rfl
@[go_sem] theorem maskS_n (l : SL) : maskS [] l = [] := by cases l <;> rfl
/-- the slots at a function's start -/
def entS : Nat → List AV → SL
  | _, [] => []
  | i, a :: l => (i, a) :: entS (i + 1) l
theorem entS_look {df : AV} : ∀ (l : List AV) (i t : Nat), lookS df (i + t) (entS i l) = l.getD t df
  | [], i, t => by simp [entS, lookS]
  | a :: l, i, 0 => by simp [entS, lookS]
  | a :: l, i, t + 1 => by
    simp only [entS, lookS]
    rw [if_neg (by omega), show i + (t + 1) = (i + 1) + t by omega, entS_look l (i + 1) t]
    simp
theorem entS_eq (args : List AV) (n : Nat) (h : args.length ≤ n) : args ++ List.replicate (n - args.length) .undef = mkS .undef (entS 0 args) n 0 := by
  apply List.ext_getElem?
  intro t
  rcases Nat.lt_or_ge t n with ht | ht
  · rw [mkS_get _ _ _ _ _ ht, entS_look]
    rcases Nat.lt_or_ge t args.length with h1 | h1
    · rw [List.getElem?_append_left h1, List.getD, List.getElem?_eq_getElem h1]; rfl
    · rw [List.getElem?_append_right h1, List.getElem?_replicate, if_pos (by omega), List.getD, List.getElem?_eq_none h1]; rfl
  · rw [List.getElem?_eq_none (by simp; omega), List.getElem?_eq_none (by rw [mkS_len]; exact ht)]
@[go_sem] theorem entS_nil (i : Nat) : entS i [] = [] := rfl
@[go_sem] theorem entS_cons (i : Nat) (a : AV) (l : List AV) : entS i (a :: l) = (i, a) :: entS (i + 1) l := rfl
/-- the second list says less -/
def LeS (df : AV) (l l' : SL) : Prop := ∀ t, lookS .any t l' = lookS df t l ∨ lookS .any t l' = .any
theorem LeS.any (df : AV) (l : SL) : LeS df l [] := fun t => .inr rfl
theorem lookS_mask {df : AV} {t : Nat} : ∀ (m : List Bool) (l : SL), (l.map Prod.fst).Pairwise (· < ·) → lookS .any t (maskS m l) = lookS df t l ∨ lookS .any t (maskS m l) = .any
  | [], l, _ => by cases l <;> exact .inr rfl
  | true :: m, [], _ => .inr rfl
  | false :: m, [], _ => .inr rfl
  | true :: m, p :: l, hs => by
    simp only [List.map_cons, List.pairwise_cons] at hs
    simp only [maskS, lookS]
    split
    · exact .inl rfl
    · exact lookS_mask m l hs.2
  | false :: m, p :: l, hs => by
    simp only [List.map_cons, List.pairwise_cons] at hs
    simp only [maskS, lookS]
    split
    · rename_i hp
      refine .inr ?_
      have : ∀ (m : List Bool) (l : SL), (∀ x ∈ l.map Prod.fst, t < x) → lookS .any t (maskS m l) = .any := fun m => by
        induction m with
        | nil => intro l _; cases l <;> rfl
        | cons b m ih =>
          intro l hl
          cases l with
          | nil => cases b <;> rfl
          | cons q l =>
            have hq := hl q.1 (by simp)
            cases b with
            | true => simp only [maskS, lookS]; rw [if_neg (by omega)]; exact ih l fun x hx => hl x (by simp; exact .inr (by simpa using hx))
            | false => exact ih l fun x hx => hl x (by simp; exact .inr (by simpa using hx))
      exact this m l fun x hx => by have := hs.1 x hx; omega
    · exact lookS_mask m l hs.2
def incS : SL → Bool
  | p :: q :: l => decide (p.1 < q.1) && incS (q :: l)
  | _ => true
theorem incS_ok : ∀ {l : SL}, incS l = true → (l.map Prod.fst).Pairwise (· < ·)
  | [], _ => .nil
  | [p], _ => by simp
  | p :: q :: l, h => by
    simp only [incS, Bool.and_eq_true, decide_eq_true_eq] at h
    have ih := incS_ok h.2
    simp only [List.map_cons, List.pairwise_cons] at ih ⊢
    refine ⟨fun x hx => ?_, ih⟩
    rcases List.mem_cons.1 hx with rfl | hx
    · exact h.1
    · have := ih.1 x hx; omega
theorem LeS.mask {df : AV} {l : SL} (m : List Bool) (h : incS l = true) : LeS df l (maskS m l) := fun _ => lookS_mask m l (incS_ok h)
section
variable {P : Program} {T : Tbl} {G : Gh} {h : AH} {Q : AQ} {N : Nat} {l l' : SL} {df : AV} {c : Code}
theorem SlR.leS {tmps : Array Value} (R : SlR G (mkS df l N 0) tmps) (hl : LeS df l l') : SlR G (mkS .any l' N 0) tmps := by
  refine ⟨by rw [mkS_len]; rw [← mkS_len df l N 0]; exact R.1, fun i a e => ?_⟩
  have hi : i < N := by
    have := (List.getElem?_eq_some_iff.1 e).1
    rwa [mkS_len] at this
  rw [mkS_get _ _ _ _ _ hi, Nat.zero_add] at e
  injection e with e
  obtain ⟨v, h1, h2⟩ := R.2 i _ (mkS_get df l N 0 i hi)
  rw [Nat.zero_add] at h2
  refine ⟨v, h1, ?_⟩
  rcases hl i with h3 | h3
  · rw [← e, h3]; exact h2
  · rw [← e, h3]; exact .any v
theorem AWp.leS (hl : LeS df l l') (H : AWp P T c Q (mkS .any l' N 0) h) : AWp P T c Q (mkS df l N 0) h := fun G w a S R => H G w a S (R.leS hl)
/-- what is no longer read is let go -/
theorem AWp.mask (m : List Bool) (hs : incS l = true) (H : AWp P T c Q (mkS .any (maskS m l) N 0) h) : AWp P T c Q (mkS df l N 0) h := H.leS (LeS.mask m hs)
/-- the second heap says less -/
def LeH (h h' : AH) : Prop := ∀ (T : Tbl) (G : Gh) (w : World), Sim T G h w → Sim T G h' w
theorem LeH.refl (h : AH) : LeH h h := fun _ _ _ S => S
theorem LeH.trans {h h' h'' : AH} (p : LeH h h') (q : LeH h' h'') : LeH h h'' := fun T G w S => q T G w (p T G w S)
theorem LeH.perm {h h' : AH} (p : PermH h h') : LeH h h' := fun _ _ _ S => S.perm p
theorem delO_sub (b : Nat) : ∀ l : List (Nat × Ob), (delO b l).Sublist l
  | [] => .slnil
  | p :: r => by
    unfold delO
    split
    · exact .cons _ (.refl _)
    · exact (delO_sub b r).cons_cons _
theorem delT_sub (t : Nat) : ∀ l : List Nat, (delT t l).Sublist l
  | [] => .slnil
  | p :: r => by
    unfold delT
    split
    · exact .cons _ (.refl _)
    · exact (delT_sub t r).cons_cons _
/-- without some, and with some ahead -/
def ordH (gs gt bs ts : List Nat) (h : AH) : AH := frontH bs ts ⟨gs.foldr delO h.objs, gt.foldr delT h.live⟩
theorem LeH.ord (gs gt bs ts : List Nat) (h : AH) : LeH h (ordH gs gt bs ts h) := by
  have k1 : ∀ l : List (Nat × Ob), (gs.foldr delO l).Sublist l := fun l => by
    induction gs with
    | nil => exact .refl _
    | cons b r ih => exact (delO_sub b _).trans ih
  have k2 : ∀ l : List Nat, (gt.foldr delT l).Sublist l := fun l => by
    induction gt with
    | nil => exact .refl _
    | cons b r ih => exact (delT_sub b _).trans ih
  exact fun T G w S => (S.drop (h' := ⟨gs.foldr delO h.objs, gt.foldr delT h.live⟩) (k1 _) (k2 _)).perm (frontH_perm bs ts _)
theorem AWp.leH {sl : List AV} {h' : AH} (p : LeH h h') (H : AWp P T c Q sl h') : AWp P T c Q sl h := fun G w a S R => H G w a (p _ _ _ S) R
theorem AWp.ord {sl : List AV} {h' : AH} (gs gt bs ts : List Nat) (e : ordH gs gt bs ts h = h') (H : AWp P T c Q sl h') : AWp P T c Q sl h := H.leH (e ▸ LeH.ord gs gt bs ts h)
/-- a loop: I n l h, with n to fall; l: the slots that it changes; the slots un stay -/
def mrgS : SL → SL → SL
  | [], l => l
  | p :: r, l => mrgS r (insS p.1 p.2 l)
theorem lookS_mrg {t : Nat} : ∀ (u l : SL), (∃ v, (t, v) ∈ u ∧ lookS .any t (mrgS u l) = v) ∨ lookS .any t (mrgS u l) = lookS .any t l
  | [], l => .inr rfl
  | p :: r, l => by
    rcases lookS_mrg (t := t) r (insS p.1 p.2 l) with ⟨v, h1, h2⟩ | h1
    · exact .inl ⟨v, List.mem_cons_of_mem _ h1, h2⟩
    · simp only [mrgS]
      rw [lookS_ins] at h1
      by_cases hp : p.1 = t
      · rw [if_pos hp] at h1
        exact .inl ⟨p.2, by rw [← hp]; exact List.mem_cons_self .., h1⟩
      · rw [if_neg hp] at h1
        exact .inr h1
theorem lookS_mem {df : AV} {t : Nat} {v : AV} : ∀ {l : SL}, (l.map Prod.fst).Pairwise (· < ·) → (t, v) ∈ l → lookS df t l = v
  | p :: l, hs, h => by
    simp only [List.map_cons, List.pairwise_cons] at hs
    simp only [lookS]
    rcases List.mem_cons.1 h with rfl | h
    · rw [if_pos rfl]
    · have := hs.1 t (List.mem_map_of_mem (f := Prod.fst) h)
      rw [if_neg (by omega)]
      exact lookS_mem hs.2 h
theorem maskS_mem {x : Nat × AV} : ∀ {m : List Bool} {l : SL}, x ∈ maskS m l → x ∈ l
  | [], l, h => by cases l <;> simp [maskS] at h
  | true :: m, [], h => by simp [maskS] at h
  | false :: m, [], h => by simp [maskS] at h
  | true :: m, p :: l, h => by
    simp only [maskS, List.mem_cons] at h ⊢
    exact h.imp id maskS_mem
  | false :: m, p :: l, h => List.mem_cons_of_mem _ (maskS_mem (m := m) h)
theorem LeS.mrg {df : AV} {l : SL} (mu mc : List Bool) (hs : incS l = true) : LeS df l (mrgS (maskS mu l) (maskS mc l)) := fun t => by
  rcases lookS_mrg (t := t) (maskS mu l) (maskS mc l) with ⟨v, h1, h2⟩ | h1
  · rw [h2]; exact .inl (lookS_mem (incS_ok hs) (maskS_mem h1)).symm
  · rw [h1]; exact lookS_mask mc l (incS_ok hs)
/-- slots that say less -/
def LeSl : SL → SL → Prop
  | [], [] => True
  | p :: l, q :: l' => p.1 = q.1 ∧ LeA true p.2 q.2 ∧ LeSl l l'
  | _, _ => False
theorem VR.leT {a b : AV} {v : Value} (h : LeA true a b) (hv : VR G a v) : VR G b v := h.okT hv
theorem mkS_le {n i : Nat} : ∀ {l l' : SL}, LeSl l l' → ∀ t, LeA true (lookS .any t l) (lookS .any t l')
  | [], [], _, t => by simp [lookS, LeA]
  | p :: l, q :: l', h, t => by
    obtain ⟨h1, h2, h3⟩ := h
    simp only [lookS]
    rw [← h1]
    split
    · exact h2
    · exact mkS_le (n := n) (i := i) h3 t
  | [], _ :: _, h, _ => by simp [LeSl] at h
  | _ :: _, [], h, _ => by simp [LeSl] at h
theorem SlR.leSl {tmps : Array Value} (R : SlR G (mkS .any l N 0) tmps) (hl : LeSl l l') : SlR G (mkS .any l' N 0) tmps := by
  refine ⟨by rw [mkS_len]; rw [← mkS_len .any l N 0]; exact R.1, fun i a e => ?_⟩
  have hi : i < N := by
    have := (List.getElem?_eq_some_iff.1 e).1
    rwa [mkS_len] at this
  rw [mkS_get _ _ _ _ _ hi, Nat.zero_add] at e
  injection e with e
  obtain ⟨v, h1, h2⟩ := R.2 i _ (mkS_get .any l N 0 i hi)
  rw [Nat.zero_add] at h2
  exact ⟨v, h1, e ▸ (mkS_le (n := 0) (i := 0) hl i).okT h2⟩
theorem LeH.obs {h : AH} {o : List (Nat × Ob)} (hl : LeObs h.objs o) : LeH h ⟨o, h.live⟩ := fun _ _ _ S => S.le hl
theorem LeA.rfl1 : ∀ a : AV, (match a with | .cnd .. | .agg _ | .tup _ | .ifc .. | .fn .. => False | _ => True) → LeA true a a
  | .d x, _ => by simp only [LeA]; exact LeD.rfl' x
  | .own .., _ => by simp [LeA]
  | .nils, _ => by simp [LeA]
  | .ptr .., _ => by simp [LeA]
  | .elt .., _ => by simp [LeA]
  | .arr .., _ => by simp [LeA]
  | .nilf, _ => by simp [LeA]
  | .nilp, _ => by simp [LeA]
  | .nili, _ => by simp [LeA]
  | .undef, _ => by simp [LeA]
  | .any, _ => by simp [LeA]
/-- slots and objects say less -/
def WkS (J : SL → AH → Prop) (lc : SL) (hc : AH) : Prop := J lc hc ∨ ∃ lc' o, LeSl lc lc' ∧ LeObs hc.objs o ∧ J lc' ⟨o, hc.live⟩
theorem WkS.e {J : SL → AH → Prop} {lc : SL} {hc : AH} (h : J lc hc) : WkS J lc hc := .inl h
theorem WkS.w {J : SL → AH → Prop} {lc : SL} {hc : AH} (lc' : SL) (o : List (Nat × Ob)) (h1 : LeSl lc lc') (h2 : LeObs hc.objs o) (h3 : J lc' ⟨o, hc.live⟩) : WkS J lc hc := .inr ⟨lc', o, h1, h2, h3⟩
theorem lookS_le {lc lc' : SL} (hl : LeSl lc lc') : ∀ (u : SL) (t : Nat), LeA true (lookS .any t (mrgS u lc)) (lookS .any t (mrgS u lc')) ∨ lookS .any t (mrgS u lc) = lookS .any t (mrgS u lc') := by
  have ins : ∀ (u : SL) (a b : SL), (∀ t, LeA true (lookS .any t a) (lookS .any t b) ∨ lookS .any t a = lookS .any t b) → ∀ t, LeA true (lookS .any t (mrgS u a)) (lookS .any t (mrgS u b)) ∨ lookS .any t (mrgS u a) = lookS .any t (mrgS u b) := fun u => by
    induction u with
    | nil => exact fun a b h => h
    | cons p r ih =>
      intro a b h
      refine ih _ _ fun t => ?_
      rw [lookS_ins, lookS_ins]
      by_cases hp : p.1 = t
      · rw [if_pos hp, if_pos hp]; exact .inr rfl
      · rw [if_neg hp, if_neg hp]; exact h t
  exact fun u => ins u lc lc' fun t => .inl (mkS_le (n := 0) (i := 0) hl t)
theorem Sim.wk {un : SL} {J : SL → AH → Prop} {lc : SL} {hc : AH} {w : World} {tmps : Array Value} (e : WkS J lc hc) (S : Sim T G hc w) (R : SlR G (mkS .any (mrgS un lc) N 0) tmps) : ∃ lc hc, J lc hc ∧ Sim T G hc w ∧ SlR G (mkS .any (mrgS un lc) N 0) tmps := by
  rcases e with e | ⟨lc', o, h1, h2, h3⟩
  · exact ⟨_, _, e, S, R⟩
  refine ⟨_, _, h3, S.le h2, by rw [mkS_len]; rw [← mkS_len .any (mrgS un lc) N 0]; exact R.1, fun i a e => ?_⟩
  have hi : i < N := by
    have := (List.getElem?_eq_some_iff.1 e).1
    rwa [mkS_len] at this
  rw [mkS_get _ _ _ _ _ hi, Nat.zero_add] at e
  injection e with e
  obtain ⟨v, g1, g2⟩ := R.2 i _ (mkS_get .any (mrgS un lc) N 0 i hi)
  rw [Nat.zero_add] at g2
  refine ⟨v, g1, e ▸ ?_⟩
  rcases lookS_le h1 un i with h4 | h4
  · exact h4.okT g2
  · rw [← h4]; exact g2
/-- where a way ends: the slots un are as they were, the others and the heap are as J says -/
def EndS (N : Nat) (un : SL) (J : SL → AH → Prop) (s' : List AV) (h' : AH) : Prop :=
  ∃ df' l' mu mc hc, s' = mkS df' l' N 0 ∧ incS l' = true ∧ LeH h' hc ∧ maskS mu l' = un ∧ WkS J (maskS mc l') hc
theorem EndS.mk {un : SL} {J : SL → AH → Prop} {df' : AV} {l' : SL} {h' : AH} (mu mc : List Bool) (gs gt bs ts : List Nat) (hs : incS l' = true)
    (hu : maskS mu l' = un) (hj : WkS J (maskS mc l') (ordH gs gt bs ts h')) : EndS N un J (mkS df' l' N 0) h' := ⟨df', l', mu, mc, _, rfl, hs, LeH.ord gs gt bs ts h', hu, hj⟩
/-- the same, with the heap as it is -/
theorem EndS.mkr {un : SL} {J : SL → AH → Prop} {df' : AV} {l' : SL} {h' : AH} (mu mc : List Bool) (hs : incS l' = true) (hu : maskS mu l' = un) (hj : WkS J (maskS mc l') h') : EndS N un J (mkS df' l' N 0) h' :=
  ⟨df', l', mu, mc, h', rfl, hs, LeH.refl _, hu, hj⟩
theorem Sim.ends {un : SL} {J : SL → AH → Prop} {s' : List AV} {h' : AH} {w : World} {tmps : Array Value} (e : EndS N un J s' h') (S : Sim T G h' w) (R : SlR G s' tmps) : ∃ lc hc, J lc hc ∧ Sim T G hc w ∧ SlR G (mkS .any (mrgS un lc) N 0) tmps := by
  obtain ⟨df', l', mu, mc, hc, rfl, hs', hp, rfl, hj⟩ := e
  exact Sim.wk hj (hp _ _ _ S) (R.leS (LeS.mrg mu mc hs'))
theorem thenQ_o {K : List AV → AH → Prop} {s : List AV} (H : thenQ K Q .normal s h) : K s h := H
theorem AWp.loopS {body : Code} (mu mc : List Bool) (I : Nat → SL → AH → Prop) (hs : incS l = true) (h0 : ∃ n, I n (maskS mc l) h)
    (round : ∀ n lc hc, I n lc hc → AWp P T body (thenQ (EndS N (maskS mu l) fun lc' hc' => ∃ n', n' < n ∧ I n' lc' hc') Q) (mkS .any (mrgS (maskS mu l) lc) N 0) hc) : AWp P T (.loop body) Q (mkS df l N 0) h := by
  intro G w a S R
  let J : Nat → Act → World → Prop := fun n a' w' => a'.defers = a.defers ∧ ∃ lc h' G', I n lc h' ∧ Gle G G' ∧ Sim T G' h' w' ∧ SlR G' (mkS .any (mrgS (maskS mu l) lc) N 0) a'.tmps
  have hex : ∀ a' w', (∃ n, J n a' w') → ∃ n, J n a' w' ∧ ∀ m, J m a' w' → n ≤ m := fun a' w' ⟨n, hn⟩ => by
    induction n using Nat.strongRecOn with
    | _ n ih =>
      by_cases hm : ∃ m, m < n ∧ J m a' w'
      · obtain ⟨m, hlt, hj⟩ := hm
        exact ih m hlt hj
      · exact ⟨n, hn, fun m hj => by
          rcases Nat.lt_or_ge m n with h' | h'
          · exact absurd ⟨m, h', hj⟩ hm
          · exact h'⟩
  refine wp_loop (fun a' w' => ∃ n, J n a' w') (fun a' w' => Classical.epsilon fun n => J n a' w' ∧ ∀ m, J m a' w' → n ≤ m) ?_ ?_
  · obtain ⟨n, hn⟩ := h0
    exact ⟨n, rfl, _, h, G, hn, Gle.refl G, S, R.leS (LeS.mrg mu mc hs)⟩
  · intro a1 w1 hI
    obtain ⟨⟨hd, lc, h', G', hi, hG, S', R'⟩, hmin⟩ := Classical.epsilon_spec (p := fun n => J n a1 w1 ∧ ∀ m, J m a1 w1 → n ≤ m) (hex a1 w1 hI)
    refine wp_mono (round _ lc h' hi G' w1 a1 S' R') ?_
    rintro e a2 w2 ⟨hd2, x, s2, h2, G2, hq, hx, hG2, S2, R2⟩
    cases x with
    | normal =>
      cases e <;> simp only [ExR] at hx
      obtain ⟨lc', hc', ⟨n', hlt, hi'⟩, S3, R3⟩ := Sim.ends (N := N) (thenQ_o hq) S2 R2
      have hj : J n' a2 w2 := ⟨hd2.trans hd, lc', _, G2, hi', hG.trans hG2, S3, R3⟩
      refine ⟨⟨n', hj⟩, ?_⟩
      have := (Classical.epsilon_spec (p := fun n => J n a2 w2 ∧ ∀ m, J m a2 w2 → n ≤ m) (hex a2 w2 ⟨n', hj⟩)).2 n' hj
      exact Nat.lt_of_le_of_lt this hlt
    | exit i =>
      cases e <;> simp only [ExR] at hx
      exact ⟨hd2.trans hd, _, s2, h2, G2, hq, hx, hG.trans hG2, S2, R2⟩
    | ret =>
      cases e <;> simp only [ExR] at hx
      exact ⟨hd2.trans hd, _, s2, h2, G2, hq, trivial, hG.trans hG2, S2, R2⟩
    | pan p =>
      cases e <;> simp only [ExR] at hx
      exact ⟨hd2.trans hd, _, s2, h2, G2, hq, hx, hG.trans hG2, S2, R2⟩
/-- ways that meet: I l h; l: the slots that the ways change -/
theorem AWp.joinK {x y : Code} {K : List AV → AH → Prop} (hK : ∀ s h, AWp P T y Q s h → K s h) (mu : List Bool) (I : SL → AH → Prop) (H : AWp P T x (thenQ (EndS N (maskS mu l) I) Q) (mkS df l N 0) h)
    (H2 : ∀ lc hc, I lc hc → AWp P T y Q (mkS .any (mrgS (maskS mu l) lc) N 0) hc) : AWp P T x (thenQ K Q) (mkS df l N 0) h := by
  refine AWp.mono (fun x s h q => ?_) H
  cases x with
  | normal =>
    refine hK _ _ fun G w a S R => ?_
    obtain ⟨lc, hc, hj, S3, R3⟩ := Sim.ends (N := N) (show EndS N _ _ s h from q) S R
    exact H2 lc hc hj G w a S3 R3
  | _ => exact q
theorem AWp.joinS {x y : Code} (mu : List Bool) (I : SL → AH → Prop) (H : AWp P T x (thenQ (EndS N (maskS mu l) I) Q) (mkS df l N 0) h)
    (H2 : ∀ lc hc, I lc hc → AWp P T y Q (mkS .any (mrgS (maskS mu l) lc) N 0) hc) : AWp P T (.seq x y) Q (mkS df l N 0) h :=
  AWp.seq fun K hK => AWp.joinK hK mu I H H2
end
section
variable {P : Program} {T : Tbl} {f : FuncId} {fn : Func} {c : Code} {args : List AV} {h : AH} {N : Nat}
theorem PCall.enterS {r : AV} (hf : P.funcs[f]? = some fn) (hb : fn.body = some c) (hN : fn.ntmps = N) (hl : Nat.ble args.length N = true)
    (H : (∀ a ∈ args, a.bnd) → AWp P T c (pureQ P fn.results r) (mkS .undef (entS 0 args) N 0) ⟨[], []⟩) : PCall P T f args r :=
  PCall.enter hf hb hN fun hb => by rw [entS_eq _ _ (Nat.le_of_ble_eq_true hl)]; exact H hb
/-- a function's end, with a heap that says less -/
def endW (P : Program) (rs : Array ResultVar) (R : AR → AH → Prop) : AQ
  | .normal, s, h => ∃ r, resOf P s h rs.toList = some r ∧ ∃ r', LeA true r r' ∧ ∃ hc, LeH h hc ∧ R (.ret r') hc
  | .ret, s, h => ∃ r, resOf P s h rs.toList = some r ∧ ∃ r', LeA true r r' ∧ ∃ hc, LeH h hc ∧ R (.ret r') hc
  | .pan p, s, h => ∃ hc, LeH h hc ∧ R (.pan p) hc
  | .exit _, _, _ => False
theorem ACalls.enterS {R : AR → AH → Prop} (hf : P.funcs[f]? = some fn) (hb : fn.body = some c) (hN : fn.ntmps = N) (hl : Nat.ble args.length N = true)
    (H : (∀ a ∈ args, a.bnd) → AWp P T c (endW P fn.results R) (mkS .undef (entS 0 args) N 0) h) : ACalls P T f args h R := by
  intro G w vs S Rs
  refine calls_of_wp hf hb ?_
  have hw := H Rs.bnd G w { tmps := vs ++ Array.replicate (fn.ntmps - vs.size) undef, defers := [] } S (by rw [hN, ← entS_eq _ _ (Nat.le_of_ble_eq_true hl)]; exact Rs.enter N)
  refine wp_mono hw ?_
  rintro e a w' ⟨hd, x, s, h', G', hq, hx, hG, S', R'⟩
  have hret : (∃ r, resOf P s h' fn.results.toList = some r ∧ ∃ r', LeA true r r' ∧ ∃ hc, LeH h' hc ∧ R (.ret r') hc) → ∃ v, (results fn a.tmps).run P w' = .ok v w' ∧ (∃ x h' G', R x h' ∧ Gle G G' ∧ Sim T G' h' w' ∧ match x with
      | .ret r => ∃ u, Ending.returned v = .returned u ∧ VR G' r u
      | .pan p => ∃ u, Ending.returned v = .panicked [{ v := u, recovered := false }] ∧ VR G' p u) := by
    rintro ⟨r, hr, r', hle, hc, hp, hR⟩
    obtain ⟨v, h1, h2⟩ := resOf_ok S' R' hr
    exact ⟨v, h1, _, _, G', hR, hG, hp _ _ _ S', v, rfl, LeA.ok r r' v hle h2⟩
  cases x with
  | normal =>
    cases e <;> simp only [ExR] at hx
    obtain ⟨v, h1, h2⟩ := hret hq
    exact ⟨hd, v, h1, h2⟩
  | ret =>
    cases e <;> simp only [ExR] at hx
    obtain ⟨v, h1, h2⟩ := hret hq
    exact ⟨hd, v, h1, h2⟩
  | exit i => exact hq.elim
  | pan p =>
    cases e <;> simp only [ExR] at hx
    obtain ⟨v, rfl, hv⟩ := hx
    obtain ⟨hc, hp, hR⟩ := hq
    exact ⟨hd, _, _, G', hR, hG, hp _ _ _ S', v, rfl, hv⟩
theorem endW_r {R : AR → AH → Prop} {rs : Array ResultVar} {s : List AV} {r r' : AV} (gs gt bs ts : List Nat) (hr : resOf P s h rs.toList = some r) (hR : R (.ret r') (ordH gs gt bs ts h)) (hle : LeA true r r') : endW P rs R .ret s h := ⟨r, hr, r', hle, _, LeH.ord gs gt bs ts h, hR⟩
theorem endW_n {R : AR → AH → Prop} {rs : Array ResultVar} {s : List AV} {r r' : AV} (gs gt bs ts : List Nat) (hr : resOf P s h rs.toList = some r) (hR : R (.ret r') (ordH gs gt bs ts h)) (hle : LeA true r r') : endW P rs R .normal s h := ⟨r, hr, r', hle, _, LeH.ord gs gt bs ts h, hR⟩
theorem endW_p {R : AR → AH → Prop} {rs : Array ResultVar} {s : List AV} {p : AV} (gs gt bs ts : List Nat) (hR : R (.pan p) (ordH gs gt bs ts h)) : endW P rs R (.pan p) s h := ⟨_, LeH.ord gs gt bs ts h, hR⟩
end
section
variable {P : Program} {T : Tbl} {Q : AQ} {h : AH} {N : Nat} {l : SL} {df : AV}
/-- a truth put together -/
theorem AWp.boJ {x y : Code} {z : Bool} (mu : List Bool) (t : Nat) (H : AWp P T x (thenQ (EndS N (maskS mu l) fun lc hc => EqS lc [(t, .d (.bool z))] ∧ EqS hc h) Q) (mkS df l N 0) h)
    (H2 : AWp P T y Q (mkS .any (mrgS (maskS mu l) [(t, .d (.bool z))]) N 0) h) : AWp P T (.seq x y) Q (mkS df l N 0) h :=
  AWp.joinS mu _ H fun lc hc ⟨⟨h1⟩, ⟨h2⟩⟩ => by subst h1 h2; exact H2
theorem AWp.boK {x y : Code} {K : List AV → AH → Prop} {z : Bool} (hK : ∀ s h, AWp P T y Q s h → K s h) (mu : List Bool) (t : Nat) (H : AWp P T x (thenQ (EndS N (maskS mu l) fun lc hc => EqS lc [(t, .d (.bool z))] ∧ EqS hc h) Q) (mkS df l N 0) h)
    (H2 : AWp P T y Q (mkS .any (mrgS (maskS mu l) [(t, .d (.bool z))]) N 0) h) : AWp P T x (thenQ K Q) (mkS df l N 0) h :=
  AWp.joinK hK mu _ H fun lc hc ⟨⟨h1⟩, ⟨h2⟩⟩ => by subst h1 h2; exact H2
theorem or_f {b v y : Bool} (hb : b = false) (h : v = y) : v = (b || y) := by rw [hb, Bool.false_or]; exact h
theorem or_t {b y : Bool} (hb : b = true) : b = (b || y) := by rw [hb, Bool.true_or]
theorem and_t {b v y : Bool} (hb : b = true) (h : v = y) : v = (b && y) := by rw [hb, Bool.true_and]; exact h
theorem and_f {b y : Bool} (hb : b = false) : b = (b && y) := by rw [hb, Bool.false_and]
theorem nfB {b : Bool} (h : b = false) : (!b) = true := by rw [h]; rfl
theorem EqS.bo {t : Nat} {v z : Bool} (h : v = z) : EqS [(t, AV.d (.bool v))] [(t, AV.d (.bool z))] := ⟨by rw [h]⟩
end
@[go_sem] theorem size_ite (l : List UInt8) (a b : AV) (h : l.length ≤ 4096) : (if (ByteArray.mk l.toArray).size ≤ maxLen then a else b) = a := by
  rw [if_pos]
  show l.toArray.size ≤ maxLen
  have : (4096 : Nat) ≤ maxLen := by decide
  simp; omega
attribute [go_sem] ordH List.foldr_cons List.foldr_nil Int.toNat_zero Int.toNat_one
section
variable {P : Program} {T : Tbl} {Q : AQ} {h : AH} {N : Nat} {l : SL} {df : AV}
/-- a nil slice in a slot may be taken for one to append to -/
theorem AWp.ownNilS {c : Code} (i k : Nat) (hi : lookS df i l = .nils) (hN : Nat.blt i N = true) (hk : 0 < k) (H : ∀ t, freshT t h.live → AWp P T c Q (mkS df (insS i (.own t k []) l) N 0) ⟨h.objs, t :: h.live⟩) : AWp P T c Q (mkS df l N 0) h := by
  intro G w a S R
  refine AWp.ownNil (P := P) (T := T) (c := c) (Q := Q) i k (by rw [mkS_get _ _ _ _ _ (by simpa [Nat.blt_eq] using hN), Nat.zero_add, hi]) hk (fun t => ?_) G w a S R
  rw [mkS_set]
  intro G' w' a' S' R'
  exact H t (fresh_tok fun x hx e => by subst e; have := S'.lnd; simp only [List.nodup_cons] at this; exact this.1 hx) G' w' a' S' R'
end
section
variable {P : Program} {T : Tbl} {G : Gh} {h : AH} {w : World} {sl : List AV} {ops : Array Oper} {rest : List Oper} {o : Oper} {K : List AV → AH → Prop} {X : AV → AH → Prop} {Q : AQ}
/-- a new block, full of what is known, as a slice of one's own -/
theorem Sim.iceTok (S : Sim T G h w) (vs : Array Value) (e : TypeId) (n k : Nat) (hk : 0 < k) (hs : vs.size = n * k) (hm : n ≤ maxLen) :
    ∃ G', Gle (G.ice w.heap.size vs) G' ∧ Sim T G' ⟨h.objs, G.nt :: h.live⟩ (w.alloc (.cells vs e)) ∧ G'.tok G.nt = some (k, .slice (some ⟨w.heap.size, 0, none⟩) n n) := by
  have S0 := S.ice vs e (0, 0)
  let G1 := G.ice w.heap.size vs
  let G' : Gh := { G1 with tok := fun t => if t = G.nt then some (k, .slice (some ⟨w.heap.size, 0, none⟩) n n) else G.tok t, nt := G.nt + 1 }
  have hG : Gle G1 G' := ⟨rfl, fun _ _ _ e => e, fun _ _ _ e => .inl e, fun t x e => by
    show (if t = G.nt then _ else _) = _
    have e : G.tok t = some x := e
    rw [if_neg (fun e' => by rw [S.fin t (by omega)] at e; cases e)]
    exact e⟩
  have S1 : Sim T G' h (w.alloc (.cells vs e)) := S0.grow (Below.refl _ _) hG (fun t ht => by
      show (if t = G.nt then _ else _) = _
      have ht' : G.nt + 1 ≤ t := ht
      rw [if_neg (by omega)]
      exact S.fin t (by omega)) (fun _ _ _ e => .inl e) S0.frz
  have htok : G'.tok G.nt = some (k, .slice (some ⟨w.heap.size, 0, none⟩) n n) := by show (if G.nt = G.nt then _ else _) = _; rw [if_pos rfl]
  have hnew : tokBlk G' G.nt = some w.heap.size := by
    unfold tokBlk
    rw [htok]
  have hold : ∀ t ∈ h.live, ∀ g, tokBlk G' t = some g → g < w.heap.size := fun t ht g hg => by
    have hne : t ≠ G.nt := fun e => by
      obtain ⟨_, _, _, _, e', _⟩ := (S.liv t ht).mem
      rw [e, S.fin _ (Nat.le_refl _)] at e'
      cases e'
    refine (S.liv t ht).lt (g := g) ?_
    unfold tokBlk at hg ⊢
    have : G'.tok t = G.tok t := by show (if t = G.nt then _ else _) = _; rw [if_neg hne]
    rw [this] at hg
    exact hg
  refine ⟨G', hG, ⟨S1.below, S1.glob, S1.frz, S1.fin, S1.obj, S1.nd, fun t ht => ?_, List.pairwise_cons.2 ⟨fun t ht g h1 h2 => ?_, S1.tdis⟩, fun t ht g hg => ?_, List.nodup_cons.2 ⟨fun hm' => ?_, S.lnd⟩⟩, htok⟩
  · rcases List.mem_cons.1 ht with rfl | ht
    · refine ⟨k, n, n, _, htok, Nat.le_refl _, hm, hk, (fun e => by cases e), fun a ha => ?_⟩
      injection ha with ha
      refine ⟨w.heap.size, vs, e, (0, 0), ha.symm, S.below.size, heap_alloc_new w _, hs, fun o _ => by simp, fun o ho => ?_⟩
      show (if w.heap.size = w.heap.size then vs[o]? else _) = none
      rw [if_pos rfl, Array.getElem?_eq_none (by omega)]
    · exact S1.liv t ht
  · rw [hnew] at h1
    injection h1 with h1
    have := hold t ht g h2
    omega
  · rcases List.mem_cons.1 ht with rfl | ht
    · rw [hnew] at hg
      injection hg with hg
      intro hm'
      obtain ⟨x, hx, e⟩ := List.mem_map.1 hm'
      have := S.fresh x hx
      omega
    · exact S1.todis t ht g hg
  · obtain ⟨_, _, _, _, e, _⟩ := (S.liv _ hm').mem
    rw [S.fin _ (Nat.le_refl _)] at e
    cases e
/-- a slice literal, taken for one to append to -/
theorem DW.bsO {t len k e by_ : Nat} {ps : Array (Nat × Operand)} {rows : List (List D)} (ho : o.op = .buildSlice t len ps) (hg : o.guard = none) (hsl : slI P t = some (e, k, by_)) (hr : rowsOf k 0 (ps.toList.map fun p => (p.1, ev T sl p.2)) = some rows) (hl : ps.size = len) (hb : len * k ≤ 16777216)
    (kk : ∀ t', freshT t' h.live → lvc P T false ops rest (putA o.dst (.own t' k rows) sl) ⟨h.objs, t' :: h.live⟩ K X) : DW P T false ops (o :: rest) sl h K X := by
  subst hl
  unfold DW
  rw [if_pos (by unfold effK; rw [hg, ho]; rfl)]
  refine ⟨hg, fun G w a S hv Kc Q hK _ => ?_⟩
  obtain ⟨i, hu, hi, hsz, _, hz, hk⟩ := slI_inv hsl
  obtain ⟨z, hz1, hz2⟩ := Option.map_eq_some_iff.1 hz
  obtain ⟨ps⟩ := ps
  have hp := parts_ok (G := G) (ρ := ev T sl) (e := a.eval) (l := ps) (fun x hx => hv x (by simpa [ho, Op.operands] using hx))
  obtain ⟨vs', h1, h2, _, h4, h5, h6⟩ := rows_fill (G := G) (ps.map fun p => (p.1, ev T sl p.2)) (ps.map fun p => (p.1, a.eval p.2)) 0 ((Array.range (ps.length * k)).map (z.cells[· % z.cells.size]!)) rows (by simp) (by simp) hp hr
  have hsz' : vs'.size = ps.length * k := by rw [h2]; simp
  simp only [List.size_toArray] at hb
  have hml : ps.length ≤ maxLen := by
    rcases Nat.eq_zero_or_pos ps.length with h0 | h0
    · rw [h0]; decide
    · have : ps.length * 1 ≤ ps.length * k := Nat.mul_le_mul_left _ hk
      unfold maxLen
      omega
  obtain ⟨G', hG1, S', ht⟩ := S.iceTok vs' e ps.length k hk hsz' hml
  have hrl : rows.length = ps.length := by simpa using h4
  have hd := ice_slc S vs' e (0, 0) ps.length hrl (Nat.le_refl _) hml h5 (fun n r j d e1 e2 => by simpa using h6 n r j d e1 e2)
  have hd : VD G'.frz (.slc k rows) (.slice (some ⟨w.heap.size, 0, none⟩) ps.length ps.length) := by
    cases hd with | d hd => exact hd.mono hG1.frz
  have hrun : (execOp a.eval o).run P w = .ok (.value (.slice (some ⟨w.heap.size, 0, none⟩) ps.length ps.length)) (w.alloc (.cells vs' e)) := by
    unfold execOp
    simp only [ho]
    simp only [Instr.buildSlice, Sem.run_bind, run_underlying hu, Result.andThen_ok, run_sizeOf hi, hsz, List.size_toArray]
    rw [if_neg (by omega)]
    rcases Nat.eq_zero_or_pos ps.length with h0 | h0
    · have hps : ps = [] := List.eq_nil_of_length_eq_zero h0
      subst hps
      have hv0 : vs' = #[] := Array.eq_empty_of_size_eq_zero (by rw [h2]; simp)
      subst hv0
      simp [Instr.fill, newRow, newObj, Sem.run, zeroValue, typeInfo, hi, hz1, program]
      congr 2
      exact Array.eq_empty_of_size_eq_zero (by simp)
    · have hne : ps.length * k ≠ 0 := Nat.mul_ne_zero (by omega) (by omega)
      rw [if_neg hne]
      simp only [zeroValue, typeInfo, Sem.run_bind, bind_assoc, pure_bind]
      simp [program, Sem.run, hi, hz1]
      have h1' : Instr.fill (fun i => some (i * k, k)) (Array.map (fun x => z.cells[x % z.cells.size]!) (Array.range (ps.length * k))) (ps.map fun p => (p.1, a.eval p.2)) = some vs' := h1
      rw [h1']
      simp [newRow, newObj, Sem.run]
  unfold Oper.wp
  rw [hrun]
  have hfr : freshT G.nt h.live := fresh_tok fun x hx e => by
    subst e
    have := S'.lnd
    simp only [List.nodup_cons] at this
    exact this.1 hx
  exact hK _ _ G' _ _ (lvc_ok _ _ _ (kk G.nt hfr)) ((S.gle_ice vs').trans hG1) S' (.own hd ht)
theorem DW.append {cp : Bool} : ∀ (l1 : List Oper) {l2 : List Oper} (sl : List AV) (h : AH), DW P T cp ops l1 sl h (fun s h => DW P T cp ops l2 s h K X) X → DW P T cp ops (l1 ++ l2) sl h K X
  | [], _, _, _, H => H
  | o :: l1, l2, sl, h, H => by
    rw [List.cons_append]
    unfold DW at H ⊢
    by_cases he : effK cp o = true
    · rw [if_pos he] at H ⊢
      exact ⟨H.1, fun G w a S hv Kc Q hK hX => H.2 G w a S hv Kc Q (fun r h' G' u w' hr => hK r h' G' u w' (DW.append l1 _ _ hr)) hX⟩
    · rw [if_neg he] at H ⊢
      obtain ⟨v, g1, g2, g3⟩ := H
      exact ⟨v, g1, g2, DW.append l1 _ _ g3⟩
/-- a region, walked in two parts -/
theorem AWp.cut {id : Nat} {l : List Oper} {y : Code} (n : Nat) (H : ∀ K : List AV → AH → Prop, (∀ s h, AWp P T y Q s h → K s h) → lvc P T false l.toArray (l.take n) sl h (fun s h => DW P T false l.toArray (l.drop n) s h K (fun p h => ∀ s, Q (.pan p) s h)) (fun p h => ∀ s, Q (.pan p) s h)) : AWp P T (.seq (.region id l.toArray false) y) Q sl h :=
  AWp.seq fun K hK => AWp.of_lift fun G w a S R => wp_region_lit (DW.list l sl h (by have := DW.append _ _ _ (lvc_ok _ _ _ (H K hK)); rwa [List.take_append_drop] at this) G G w a a.defers (Gle.refl G) S R rfl)
theorem AWp.cutk {id : Nat} {l : List Oper} (n : Nat) (H : ∀ K : List AV → AH → Prop, (∀ s h, Q .normal s h → K s h) → lvc P T false l.toArray (l.take n) sl h (fun s h => DW P T false l.toArray (l.drop n) s h K (fun p h => ∀ s, Q (.pan p) s h)) (fun p h => ∀ s, Q (.pan p) s h)) : AWp P T (.region id l.toArray false) Q sl h :=
  AWp.of_lift fun G w a S R => wp_region_lit (DW.list l sl h (by have := DW.append _ _ _ (lvc_ok _ _ _ (H (fun s h => Q .normal s h) fun _ _ h => h)); rwa [List.take_append_drop] at this) G G w a a.defers (Gle.refl G) S R rfl)
end
@[go_sem] theorem mrgS_nil (l : SL) : mrgS [] l = l := rfl
@[go_sem] theorem mrgS_cons (i : Nat) (v : AV) (r l : SL) : mrgS ((i, v) :: r) l = mrgS r (insS i v l) := rfl
@[go_sem] theorem incS_one (p : Nat × AV) : incS [p] = true := rfl
@[go_sem] theorem incS_nil : incS [] = true := rfl
@[go_sem] theorem incS_two (i j : Nat) (u v : AV) (l : SL) : incS ((i, u) :: (j, v) :: l) = (decide (i < j) && incS ((j, v) :: l)) := rfl
end Go.Proofs.YtnoboapafndnlaaDoor

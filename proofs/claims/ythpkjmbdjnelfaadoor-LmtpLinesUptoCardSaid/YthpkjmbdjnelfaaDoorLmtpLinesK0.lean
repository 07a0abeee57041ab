/- Texts that the law LmtpLines rests on, packed. -/
import Derived.Test.YthpkjmbdjnelfaaDoorGT
import Derived.Test.YthpkjmbdjnelfaaDoorGC
namespace Go.Proofs.YthpkjmbdjnelfaaDoor
set_option linter.unusedSimpArgs false
set_option linter.unusedVariables false
/-- what stands before and behind the first at -/
def atS : Tx → Option (Tx × Tx)
  | [] => none
  | c :: r => if c = 64 then some ([], r) else (atS r).map fun p => (c :: p.1, p.2)
def adT (a : Ad) : Tx := a.1 ++ 64 :: a.2
theorem atS_some : ∀ (s : Tx) (p : Tx × Tx), atS s = some p → s = adT p
  | [], p, h => by cases h
  | c :: r, p, h => by
    unfold atS at h
    split at h
    · rename_i hc
      injection h with h
      subst h; subst hc; rfl
    · cases h2 : atS r with
      | none => rw [h2] at h; cases h
      | some q =>
        rw [h2] at h
        injection h with h
        subst h
        have := atS_some r q h2
        show c :: r = _
        rw [this]; rfl
theorem atS_of : ∀ (a b : Tx), (64 : UInt8) ∉ a → atS (a ++ 64 :: b) = some (a, b)
  | [], b, h => by simp [atS]
  | c :: a, b, h => by
    have h1 : c ≠ 64 := fun e => h (e ▸ List.mem_cons_self ..)
    have h2 := atS_of a b fun e => h (List.mem_cons_of_mem _ e)
    show atS (c :: (a ++ 64 :: b)) = _
    rw [atS, if_neg h1, h2]; rfl
theorem dot_run : ∀ (l : Tx) (d : Bool), dotGo d l = true → ∀ c ∈ l, runB c = true
  | [], d, h, c, hc => absurd hc (List.not_mem_nil)
  | x :: r, d, h, c, hc => by
    unfold dotGo at h
    split at h
    · rename_i hx
      rw [Bool.and_eq_true] at h
      rcases List.mem_cons.1 hc with rfl | h9
      · subst hx; decide
      · exact dot_run r _ h.2 c h9
    · rw [Bool.and_eq_true] at h
      rcases List.mem_cons.1 hc with rfl | h9
      · simp [runB, h.1]
      · exact dot_run r _ h.2 c h9
theorem adr_run {l d : Tx} (h : adrE l d = 0) : (∀ c ∈ l, runB c = true) ∧ (∀ c ∈ d, runB c = true) ∧ l.length + d.length ≤ 99 := by
  unfold adrE at h
  split at h
  · cases h
  · rename_i h1
    split at h
    · cases h
    · refine ⟨dot_run l true ?_, dot_run d true ?_, by omega⟩
      · cases h9 : dotGo true l with
        | true => rfl
        | false => exact absurd (.inl h9) h1
      · cases h9 : dotGo true d with
        | true => rfl
        | false => exact absurd (.inr h9) h1
theorem no64 {l : Tx} (h : ∀ c ∈ l, runB c = true) : (64 : UInt8) ∉ l := fun h9 => by
  have := h _ h9
  rw [run64] at this; cases this
theorem runS_app {l r : Tx} {m : UInt8} (h : ∀ c ∈ l, runB c = true) (hm : runB m = false) : runS (l ++ m :: r) = l ∧ offS (l ++ m :: r) = m :: r := by
  induction l with
  | nil => exact ⟨runS_no hm, offS_no hm⟩
  | cons c l ih =>
    obtain ⟨h1, h2⟩ := ih fun x hx => h x (List.mem_cons_of_mem _ hx)
    have hc := h c (List.mem_cons_self ..)
    refine ⟨?_, ?_⟩
    · show runS (c :: (l ++ m :: r)) = _
      rw [runS_cons hc, h1]
    · show offS (c :: (l ++ m :: r)) = _
      unfold offS at h2 ⊢
      rw [List.dropWhile_cons, if_pos hc]; exact h2
theorem bare_adr {l s : Tx} {a : Ad} {r : Tx} (h : bareS l s = some (a, r)) : adrE a.1 a.2 = 0 := by
  obtain ⟨p, _, h2, rfl, _⟩ := bare_inv h
  exact h2
theorem addrS_adr (n : Nat) : ∀ (first : Bool) (s : Tx) (a : Ad) (r : Tx), s.length ≤ n → addrS first s = some (a, r) → adrE a.1 a.2 = 0 := by
  induction n with
  | zero =>
    intro first s a r hs h
    have : s = [] := List.eq_nil_of_length_eq_zero (by omega)
    subst this
    unfold addrS at h
    simp [skipS, offS, runS] at h
  | succ n ih =>
    intro first s a r hs h
    have hk := skip_le s
    unfold addrS at h
    split at h
    · rename_i h0
      split at h
      · cases h
      · rename_i q hq
        have h1 := quo_lt _ _ hq
        have h2 : (skipS s).tail.length + 1 = (skipS s).length := by
          cases e : skipS s with
          | nil => rw [e] at h0; simp at h0
          | cons c t => simp
        exact ih false q a r (by omega) h
    · split at h
      · obtain ⟨q, h1, rfl⟩ := gt_lt h
        exact bare_adr h1
      · split at h
        · exact bare_adr h
        · split at h
          · cases h
          · rename_i h0
            have h1 := off_lt _ h0
            exact ih false _ a r (by omega) h
theorem listS_adr (n : Nat) : ∀ (s : Tx) (l : List Ad), s.length ≤ n → listS s = some l → ∀ a ∈ l, adrE a.1 a.2 = 0 := by
  induction n with
  | zero =>
    intro s l hs h
    have : s = [] := List.eq_nil_of_length_eq_zero (by omega)
    subst this
    rw [listS_none (by unfold addrS; simp [skipS, offS, runS])] at h
    cases h
  | succ n ih =>
    intro s l hs h
    cases ha : addrS true s with
    | none => rw [listS_none ha] at h; cases h
    | some p =>
      obtain ⟨a, r⟩ := p
      have h0 := addrS_adr _ true s a r (Nat.le_refl _) ha
      have h1 := addr_lt _ true s a r (Nat.le_refl _) ha
      have h3 := skip_le r
      rw [listS_some ha] at h
      split at h
      · injection h with h; subst h
        intro x hx
        rw [List.mem_singleton] at hx; subst hx; exact h0
      · rename_i c q hq
        rw [hq] at h3
        simp at h3
        split at h
        · cases h5 : listS q with
          | none => rw [h5] at h; cases h
          | some l2 =>
            rw [h5] at h
            injection h with h; subst h
            intro x hx
            rcases List.mem_cons.1 hx with rfl | hx
            · exact h0
            · exact ih q l2 (by omega) h5 x hx
        · cases h
/-- read by hand -/
def angR (s : Tx) : Ad × Bool :=
  if s.length < 2 ∨ ¬ s.getD 0 0 = 60 ∨ ¬ s.getD (s.length - 1) 0 = 62 then (([], []), false)
  else match atS ((s.take (s.length - 1)).drop 1) with
    | none => (([], []), false)
    | some p => (p, decide (adrE p.1 p.2 = 0))
/-- read as a list -/
def addrC (s : Tx) : Ad × Bool := if (listR s).2 = 0 then (match (listR s).1 with | [a] => (a, decide (s = 60 :: (adT a ++ [62]))) | _ => (([], []), false)) else (([], []), false)
theorem mid_of (t : Tx) : (60 :: (t ++ [62])).length = t.length + 2 ∧ (60 :: (t ++ [62])).getD 0 0 = (60 : UInt8) ∧ (60 :: (t ++ [62])).getD ((60 :: (t ++ [62])).length - 1) 0 = (62 : UInt8) ∧ ((60 :: (t ++ [62])).take ((60 :: (t ++ [62])).length - 1)).drop 1 = t := by
  refine ⟨by simp, rfl, by simp, by simp⟩
theorem mid_to {s : Tx} (h0 : 2 ≤ s.length) (h1 : s.getD 0 0 = 60) (h2 : s.getD (s.length - 1) 0 = 62) : s = 60 :: ((s.take (s.length - 1)).drop 1 ++ [62]) := by
  cases s with
  | nil => simp at h0
  | cons c r =>
    have h1 : c = 60 := h1
    subst h1
    have hr : r ≠ [] := fun e => by subst e; simp at h0
    congr 1
    rw [show (60 :: r : Tx).length - 1 = r.length from by simp] at h2 ⊢
    have h3 : r.getLast hr = 62 := by
      rw [List.getLast_eq_getElem]
      have h4 : r.length = (r.length - 1) + 1 := by
        have := List.length_pos_iff.2 hr; omega
      rw [h4] at h2
      simp only [List.getD_cons_succ] at h2
      rw [List.getD_eq_getElem?_getD, List.getElem?_eq_getElem (by have := List.length_pos_iff.2 hr; omega)] at h2
      simpa using h2
    have h5 : (60 :: r : Tx).take r.length = 60 :: r.take (r.length - 1) := by
      have h4 : r.length = (r.length - 1) + 1 := by
        have := List.length_pos_iff.2 hr; omega
      rw [h4, List.take_succ_cons]; simp
    rw [h5, List.drop_succ_cons, List.drop_zero, ← h3, ← List.dropLast_eq_take]
    exact (List.dropLast_concat_getLast hr).symm
theorem list_ang {l d : Tx} (h : adrE l d = 0) : listR (60 :: (adT (l, d) ++ [62])) = ([(l, d)], 0) := by
  obtain ⟨h1, h2, h3⟩ := adr_run h
  have e1 : adT (l, d) ++ [62] = l ++ 64 :: (d ++ [62]) := by simp [adT]
  have e2 := runS_app (r := d ++ [62]) h1 run64
  have e3 := runS_app (r := []) h2 run62
  have e4 : addrS true (60 :: (adT (l, d) ++ [62])) = some ((l, d), []) := by
    rw [addrS_60 (skip_stay blk60), e1, e2.1, e2.2, bareS, e3.1, e3.2, if_pos ⟨rfl, h⟩]
    rfl
  have e5 : listS (60 :: (adT (l, d) ++ [62])) = some [(l, d)] := by
    rw [listS_some e4]; rfl
  have e6 : ¬ 2000 < (60 :: (adT (l, d) ++ [62])).length := by simp [adT]; omega
  rw [listR, if_neg e6, e5]; rfl
theorem listR_adr {s : Tx} {l : List Ad} (h : listR s = (l, 0)) : ∀ a ∈ l, adrE a.1 a.2 = 0 := by
  unfold listR at h
  split at h
  · cases h
  · split at h
    · cases h
    · rename_i l2 h2
      split at h
      · cases h
      · injection h with h3 h4
        subst h3
        exact listS_adr _ s _ (Nat.le_refl _) h2
/-- both ways agree -/
theorem ang_eq (s : Tx) : (addrC s).2 = (angR s).2 ∧ ((angR s).2 = true → (addrC s).1 = (angR s).1) := by
  have fw : (addrC s).2 = true → angR s = ((addrC s).1, true) := by
    intro h
    unfold addrC at h ⊢
    split at h
    · rename_i h0
      rw [if_pos h0]
      split at h
      · rename_i a h1
        have hs : s = 60 :: (adT a ++ [62]) := by simpa using h
        have ha := listR_adr (show listR s = ([a], 0) from Prod.ext h1 h0) a (List.mem_singleton.2 rfl)
        obtain ⟨n1, n2, n3⟩ := adr_run ha
        obtain ⟨m1, m2, m3, m4⟩ := mid_of (adT a)
        unfold angR
        rw [hs, m2, m3, m4, if_neg (by rw [m1]; rintro (h9 | h9 | h9); omega; exact h9 rfl; exact h9 rfl)]
        rw [show atS (adT a) = some a from atS_of a.1 a.2 (no64 n1)]
        simp [ha]
      · cases h
    · cases h
  have bw : (angR s).2 = true → addrC s = ((angR s).1, true) := by
    intro h
    unfold angR at h ⊢
    split at h
    · cases h
    · rename_i h0
      rw [if_neg h0]
      split at h
      · cases h
      · rename_i p hp
        have hs := mid_to (s := s) (by omega) (Decidable.byContradiction fun h9 => h0 (.inr (.inl h9))) (Decidable.byContradiction fun h9 => h0 (.inr (.inr h9)))
        have hq := atS_some _ _ hp
        have ha : adrE p.1 p.2 = 0 := by simpa using h
        rw [hq] at hs
        have hl := list_ang ha
        rw [show (p.1, p.2) = p from rfl, ← hs] at hl
        unfold addrC
        rw [hl, if_pos rfl]
        show (p, decide (s = 60 :: (adT p ++ [62]))) = _
        rw [← hs]; simp
  refine ⟨?_, fun h => by rw [bw h]⟩
  cases h1 : (addrC s).2 with
  | true => rw [fw h1]
  | false =>
    cases h2 : (angR s).2 with
    | true => rw [bw h2] at h1; cases h1
    | false => rfl
end Go.Proofs.YthpkjmbdjnelfaaDoor

namespace Go.Proofs.YthpkjmbdjnelfaaDoor
open Go.RowKit
set_option linter.unusedSimpArgs false
set_option linter.unusedVariables false
section
variable {P : Program} {T : Tbl} {ops : Array Oper} {K : List AV → AH → Prop} {X : AV → AH → Prop} {o : Oper} {rest : List Oper} {sl : List AV} {h : AH}
end
end Go.Proofs.YthpkjmbdjnelfaaDoor

namespace Go.Proofs.YthpkjmbdjnelfaaDoor
open Go.RowKit
set_option linter.unusedSimpArgs false
set_option linter.unusedVariables false
section
variable {P : Program} {T : Tbl} {cp : Bool} {md : Region.Mode} {ops : Array Oper} {K : List AV → AH → Prop} {X : AV → AH → Prop}
/-- two operations in either order lead to the same -/
def PAIR (P : Program) (T : Tbl) (cp : Bool) (ops : Array Oper) (ox oy : Oper) (K : List AV → AH → Prop) (X : AV → AH → Prop) (s : List AV) (h : AH) : Prop :=
  ∃ S H, DW P T cp ops [ox, oy] s h (fun a b => a = S ∧ b = H) X ∧ DW P T cp ops [oy, ox] s h (fun a b => a = S ∧ b = H) X ∧ K S H
theorem AAny.pair {x y : Nat} {ox oy : Oper} {listed : Array Bool} {sl : List AV} {h : AH} (hx : ops[x]? = some ox) (hy : ops[y]? = some oy) (ex : effK cp ox = true) (ey : effK cp oy = true) (hdc : DC md ops listed)
    (hr : Region.ready md ops listed = [x, y]) (hxy : x ≠ y) (hbx : ordB cp md ops [y] (listed.setIfInBounds x true) = true) (hby : ordB cp md ops [x] (listed.setIfInBounds y true) = true) (H : PAIR P T cp ops ox oy K X sl h) : AAny P T cp md ops K X 2 listed sl h := by
  obtain ⟨S, H0, h1, h2, hk⟩ := H
  have hK : ∀ s h, s = S ∧ h = H0 → K s h := fun s h e => by rw [e.1, e.2]; exact hk
  have h1 := DW.monoK hK _ _ _ h1
  have h2 := DW.monoK hK _ _ _ h2
  have rx : x ∈ Region.ready md ops listed := by rw [hr]; simp
  have ry : y ∈ Region.ready md ops listed := by rw [hr]; simp
  refine ⟨fun h0 => (by rw [hr] at h0; cases h0), fun i hi => ?_⟩
  rw [hr] at hi
  have hi : i = x ∨ i = y := by simpa using hi
  rcases hi with rfl | rfl
  · unfold aOp
    rw [hx]
    dsimp only
    rw [if_pos ex]
    unfold DW at h1
    rw [if_pos ex] at h1
    exact h1.monoN fun r h' hN => DW.any [y] [oy] _ _ _ rfl (fun n k e => by
      cases n with
      | zero => simp at e; subst e; rw [hy]; rfl
      | succ n => simp at e) (hdc.step rx) hbx hN
  · unfold aOp
    rw [hy]
    dsimp only
    rw [if_pos ey]
    unfold DW at h2
    rw [if_pos ey] at h2
    exact h2.monoN fun r h' hN => DW.any [x] [ox] _ _ _ rfl (fun n k e => by
      cases n with
      | zero => simp at e; subst e; rw [hx]; rfl
      | succ n => simp at e) (hdc.step ry) hby hN
def CHQ (P : Program) (T : Tbl) (cp : Bool) (ops : Array Oper) (M : AH → Prop) (lz : List Oper) (ox oy : Oper) (K : List AV → AH → Prop) (X : AV → AH → Prop) : List Oper → List AV → AH → Prop
  | [], s, h => DW P T cp ops lz s h (PAIR P T cp ops ox oy K X) X
  | o :: l, s, h => DW P T cp ops [o] s h (fun s2 h2 => M h2 ∧ CHQ P T cp ops M lz ox oy K X l s2 h2) X
def ordCP (cp : Bool) (md : Region.Mode) (ops : Array Oper) (e0 : Nat) (ord2 : List Nat) (x y : Nat) : List Nat → Array Bool → Bool
  | [], listed =>
    let L1 := listed.setIfInBounds e0 true
    let L2 := lst ord2 L1
    (Region.ready md ops listed == [e0]) && ordPre cp md ops ord2 L1 && (Region.ready md ops L2 == [x, y]) && !(x == y) && ordB cp md ops [y] (L2.setIfInBounds x true) && ordB cp md ops [x] (L2.setIfInBounds y true)
  | i :: r, listed => (Region.ready md ops listed == [i]) && ordCP cp md ops e0 ord2 x y r (listed.setIfInBounds i true)
theorem CHP.any {e0 : Nat} {oe : Oper} {M : AH → Prop} {ord2 : List Nat} {l2 : List Oper} {x y : Nat} {ox oy : Oper} (hoe : ops[e0]? = some oe) (hee : effK cp oe = true) (hl2 : l2.length = ord2.length) (hm2 : ∀ (n i : Nat), ord2[n]? = some i → l2[n]? = ops[i]?) (hx : ops[x]? = some ox) (hy : ops[y]? = some oy) (ex : effK cp ox = true) (ey : effK cp oy = true) : ∀ (ord : List Nat) (l : List Oper) (listed : Array Bool) (sl : List AV) (h : AH), l.length = ord.length → (∀ (n i : Nat), ord[n]? = some i → l[n]? = ops[i]?) → DC md ops listed → ordCP cp md ops e0 ord2 x y ord listed = true → M h →
    CHQ P T cp ops M (oe :: l2) ox oy K X l sl h → AAnyM P T cp md ops e0 M K X (ord.length + (ord2.length + 2 + 1)) listed sl h
  | [], [], listed, sl, h, _, _, hdc, hB, hM, H => by
    unfold ordCP at hB
    simp only [Bool.and_eq_true] at hB
    obtain ⟨⟨⟨⟨⟨hf, hB'⟩, hpx⟩, hpy⟩, hpa⟩, hpb⟩ := hB
    have hone : Region.ready md ops listed = [e0] := by simpa using hf
    have hr : e0 ∈ Region.ready md ops listed := by rw [hone]; exact List.mem_cons_self ..
    rw [List.length_nil, Nat.zero_add]
    refine ⟨fun _ => hM, fun h0 => (by rw [h0] at hr; cases hr), fun j hj => ?_⟩
    rw [hone] at hj
    have hj : j = e0 := by simpa using hj
    subst hj
    unfold aOp
    rw [hoe]
    dsimp only
    rw [if_pos hee]
    have H : DW P T cp ops (oe :: l2) sl h (PAIR P T cp ops ox oy K X) X := H
    unfold DW at H
    rw [if_pos hee] at H
    have hlt : j < listed.size := by
      rcases Nat.lt_or_ge j listed.size with h1 | h1
      · exact h1
      · have := (mem_ready.1 hr).1
        simp [Array.getElem?_eq_none h1] at this
    exact H.monoN fun r h' hN => AAny.toM _ _ _ _ (by simp [hlt]) (DW.anyP ord2 l2 _ _ _ hl2 hm2 (hdc.step hr) hB' (DW.monoK (fun s h hp => AAny.pair hx hy ex ey ((hdc.step hr).lst (cp := cp) ord2 hB') (by simpa using hpx) (by simpa using hpy) hpa hpb hp) _ _ _ hN))
  | [], _ :: _, _, _, _, hl, _, _, _, _, _ => by simp at hl
  | _ :: _, [], _, _, _, hl, _, _, _, _, _ => by simp at hl
  | i :: ord, o :: l, listed, sl, h, hl, hmap, hdc, hB, hM, H => by
    have hi : ops[i]? = some o := (hmap 0 i rfl).symm
    unfold ordCP at hB
    simp only [Bool.and_eq_true] at hB
    obtain ⟨hf, hB'⟩ := hB
    have hone : Region.ready md ops listed = [i] := by simpa using hf
    have hr : i ∈ Region.ready md ops listed := by rw [hone]; exact List.mem_cons_self ..
    rw [List.length_cons, Nat.succ_add]
    have next : ∀ (s2 : List AV) (h2 : AH), M h2 ∧ CHQ P T cp ops M (oe :: l2) ox oy K X l s2 h2 → AAnyM P T cp md ops e0 M K X (ord.length + (ord2.length + 2 + 1)) (listed.setIfInBounds i true) s2 h2 := fun s2 h2 hN =>
      CHP.any hoe hee hl2 hm2 hx hy ex ey ord l _ _ _ (by simpa using hl) (fun n k e => by simpa using hmap (n + 1) k (by simpa using e)) (hdc.step hr) hB' hN.1 hN.2
    refine ⟨fun _ => hM, fun h0 => (by rw [h0] at hr; cases hr), fun j hj => ?_⟩
    rw [hone] at hj
    have hj : j = i := by simpa using hj
    subst hj
    have H : DW P T cp ops [o] sl h (fun s2 h2 => M h2 ∧ CHQ P T cp ops M (oe :: l2) ox oy K X l s2 h2) X := H
    unfold DW at H
    unfold aOp
    rw [hi]
    dsimp only
    split
    · rename_i he
      rw [if_pos he] at H
      refine H.monoN fun r h' hN => ?_
      unfold DW at hN
      exact next _ _ hN
    · rename_i he
      rw [if_neg he] at H
      obtain ⟨v, g1, g2, g3⟩ := H
      unfold DW at g3
      exact ⟨v, g1, g2, next _ _ g3⟩
theorem AWp.dkN {id : Nat} {l : List Oper} {Q : AQ} {sl : List AV} {h : AH} (cp : Bool) (ord1 fr cs : List Nat) (e0 : Nat) (ord2 : List Nat) {oe : Oper} (hm : P.follows .mixedOrders = true) (hB : ordOkN cp l ord1 fr cs e0 ord2 = true) (hoe : l[e0]? = some oe)
    (H : ∀ K : List AV → AH → Prop, (∀ s h, Q .normal s h → K s h) → lvc P T cp l.toArray (pick l ord1) sl h (fun s1 h1 => ∃ M : AH → Prop, M h1 ∧ FRN P T l.toArray M (fun s2 => CHN P T cp l.toArray M (oe :: pick l ord2) K (fun p h => ∀ s, Q (.pan p) s h) (pick l cs) s2 h1) (pick l fr) s1) (fun p h => ∀ s, Q (.pan p) s h)) :
    AWp P T (.region id l.toArray true) Q sl h := AWp.drawN cp ord1 fr cs e0 ord2 hm hB hoe (H _ fun _ _ h => h)
end
attribute [go_sem] CHQ
end Go.Proofs.YthpkjmbdjnelfaaDoor

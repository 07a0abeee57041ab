/- Abstract values: what a code, a call does; the rules of control. -/
import Derived.Test.YtnoboapafndnlaaDoorAvB
namespace Go.Proofs.YtnoboapafndnlaaDoor
open Go.RowKit
set_option linter.unusedSimpArgs false
set_option linter.unusedVariables false

/-- bounds that all data keep -/
inductive DB : D → Prop where
  | int (k : IntKind) (n : Int) : DB (.int k n)
  | bool (b : Bool) : DB (.bool b)
  | str (s : List UInt8) (h : s.length ≤ maxLen) : DB (.str s)
  | slc (k : Nat) (rows : List (List D)) (h : rows.length ≤ maxLen) (hk : ∀ r ∈ rows, r.length = k) (hx : ∀ r ∈ rows, ∀ x ∈ r, DB x) : DB (.slc k rows)
theorem VD.bnd {F : Frz} {x : D} {v : Value} (h : VD F x v) : DB x := by
  induction h with
  | int k n => exact .int k n
  | bool b => exact .bool b
  | str s h => exact .str _ (by rw [Array.length_toList]; exact h)
  | slc0 k A c h hm => exact .slc k [] (Nat.zero_le _) (by simp) (by simp)
  | slc k rows b off c val h0 hc hm hk hf hv ih =>
    refine .slc k rows (by omega) hk (fun r hr x hx => ?_)
    obtain ⟨i, hi, rfl⟩ := List.getElem_of_mem hr
    obtain ⟨j, hj, rfl⟩ := List.getElem_of_mem hx
    exact ih i _ j _ (List.getElem?_eq_getElem hi) (List.getElem?_eq_getElem hj)
theorem DB.str_inv {s : List UInt8} (h : DB (.str s)) : s.length ≤ maxLen := by cases h; assumption
theorem DB.slc_inv {k : Nat} {rows : List (List D)} (h : DB (.slc k rows)) : rows.length ≤ maxLen ∧ (∀ r ∈ rows, r.length = k) ∧ ∀ r ∈ rows, ∀ x ∈ r, DB x := by cases h; exact ⟨by assumption, by assumption, by assumption⟩
def AV.bnd1 : AV → Prop
  | .d x => DB x
  | .own _ k rows => DB (.slc k rows)
  | _ => True
def AV.bnd : AV → Prop
  | .agg l => ∀ a ∈ l, a.bnd1
  | .tup l => ∀ a ∈ l, a.bnd1
  | a => a.bnd1
theorem VR.bnd1 {G : Gh} {a : AV} {v : Value} (h : VR G a v) : a.bnd1 := by
  cases h with
  | d h => exact h.bnd
  | own h _ => exact h.bnd
  | _ => trivial
theorem VR.bnd {G : Gh} {a : AV} {v : Value} (h : VR G a v) : a.bnd := by
  cases h with
  | d h => exact h.bnd
  | own h _ => exact h.bnd
  | agg l vs hl h =>
    intro a ha
    obtain ⟨i, hi, rfl⟩ := List.getElem_of_mem ha
    exact (h i _ _ (List.getElem?_eq_getElem hi) (List.getElem?_eq_getElem (by omega))).bnd1
  | tup l vs hl h =>
    intro a ha
    obtain ⟨i, hi, rfl⟩ := List.getElem_of_mem ha
    exact (h i _ _ (List.getElem?_eq_getElem hi) (List.getElem?_eq_getElem (by omega))).bnd1
  | _ => trivial

/-- exits, as the logic sees them -/
inductive AX where
  | normal
  | exit (id : Nat)
  | ret
  | pan (p : AV)
def ExR (G : Gh) : AX → Exit → Prop
  | .normal, .normal => True
  | .exit i, .exit j => i = j
  | .ret, .ret => True
  | .pan p, .panic ch => ∃ v, ch = [{ v := v, recovered := false }] ∧ VR G p v
  | _, _ => False
def SlR (G : Gh) (sl : List AV) (tmps : Array Value) : Prop := tmps.size = sl.length ∧ ∀ (i : Nat) (a : AV), sl[i]? = some a → ∃ v, tmps[i]? = some v ∧ VR G a v
theorem SlR.mono {G G' : Gh} (hG : Gle G G') {sl : List AV} {tmps : Array Value} (h : SlR G sl tmps) : SlR G' sl tmps :=
  ⟨h.1, fun i a e => by obtain ⟨v, h1, h2⟩ := h.2 i a e; exact ⟨v, h1, h2.mono hG⟩⟩
theorem ExR.mono {G G' : Gh} (hG : Gle G G') {x : AX} {e : Exit} (h : ExR G x e) : ExR G' x e := by
  cases x <;> cases e <;> simp only [ExR] at h ⊢ <;> first | exact h | (obtain ⟨v, h1, h2⟩ := h; exact ⟨v, h1, h2.mono hG⟩)
abbrev AQ := AX → List AV → AH → Prop
def Lift (T : Tbl) (Q : AQ) (G : Gh) (ds : List Deferred) (e : Exit) (a : Act) (w : World) : Prop :=
  a.defers = ds ∧ ∃ x sl h G', Q x sl h ∧ ExR G' x e ∧ Gle G G' ∧ Sim T G' h w ∧ SlR G' sl a.tmps
/-- a code, run from any memory that the abstract state speaks of, ends in one that Q speaks of -/
def AWp (P : Program) (T : Tbl) (c : Code) (Q : AQ) (sl : List AV) (h : AH) : Prop :=
  ∀ (G : Gh) (w : World) (a : Act), Sim T G h w → SlR G sl a.tmps → c.wp P (Lift T Q G a.defers) a w

section
variable {P : Program} {T : Tbl} {Q Q' : AQ} {sl : List AV} {h : AH}
theorem Lift.mono {G G' : Gh} {ds : List Deferred} {e : Exit} {a : Act} {w : World} (hG : Gle G G') (hQ : ∀ x s h, Q x s h → Q' x s h) (H : Lift T Q G' ds e a w) : Lift T Q' G ds e a w := by
  obtain ⟨hd, x, s, h, G2, hq, hx, hg, S, R⟩ := H
  exact ⟨hd, x, s, h, G2, hQ _ _ _ hq, hx, hG.trans hg, S, R⟩
theorem AWp.mono {c : Code} (hQ : ∀ x s h, Q x s h → Q' x s h) (H : AWp P T c Q sl h) : AWp P T c Q' sl h :=
  fun G w a S R => wp_mono (H G w a S R) fun e a' w' h' => Lift.mono (Gle.refl G) hQ h'
theorem AWp.skip (H : Q .normal sl h) : AWp P T .skip Q sl h :=
  fun G w a S R => wp_skip ⟨rfl, .normal, sl, h, G, H, trivial, Gle.refl G, S, R⟩
theorem AWp.label {l : Nat} (H : Q .normal sl h) : AWp P T (.label l) Q sl h :=
  fun G w a S R => wp_label ⟨rfl, .normal, sl, h, G, H, trivial, Gle.refl G, S, R⟩
theorem AWp.exit {id : Nat} (H : Q (.exit id) sl h) : AWp P T (.exit id) Q sl h :=
  fun G w a S R => wp_exit ⟨rfl, .exit id, sl, h, G, H, rfl, Gle.refl G, S, R⟩
theorem AWp.ret (H : Q .ret sl h) : AWp P T .ret Q sl h :=
  fun G w a S R => wp_ret ⟨rfl, .ret, sl, h, G, H, trivial, Gle.refl G, S, R⟩
def thenQ (K : List AV → AH → Prop) (Q : AQ) : AQ
  | .normal, s, h => K s h
  | x, s, h => Q x s h
theorem AWp.seq {x y : Code} (H : ∀ K : List AV → AH → Prop, (∀ s h, AWp P T y Q s h → K s h) → AWp P T x (thenQ K Q) sl h) : AWp P T (.seq x y) Q sl h := by
  intro G w a S R
  refine wp_seq (wp_mono (H _ (fun s h hh => hh) G w a S R) ?_)
  rintro e a' w' ⟨hd, x, s, h', G', hq, hx, hG, S', R'⟩
  cases x with
  | normal =>
    cases e <;> simp only [ExR] at hx
    have := hq G' w' a' S' R'
    rw [hd] at this
    exact wp_mono this fun e a w H => H.mono hG (fun _ _ _ q => q)
  | exit i =>
    cases e <;> simp only [ExR] at hx
    exact ⟨hd, _, s, h', G', hq, hx, hG, S', R'⟩
  | ret =>
    cases e <;> simp only [ExR] at hx
    exact ⟨hd, _, s, h', G', hq, trivial, hG, S', R'⟩
  | pan p =>
    cases e <;> simp only [ExR] at hx
    exact ⟨hd, _, s, h', G', hq, hx, hG, S', R'⟩
/-- a cut: what is known between two codes -/
theorem AWp.mid {x y : Code} (M : List AV → AH → Prop) (H : AWp P T x (thenQ M Q) sl h) (H2 : ∀ s h, M s h → AWp P T y Q s h) : AWp P T (.seq x y) Q sl h :=
  AWp.seq fun K hK => AWp.mono (fun x s h q => by cases x <;> first | exact hK _ _ (H2 _ _ q) | exact q) H
def blkQ (id : Nat) (Q : AQ) : AQ
  | .exit i, s, h => if i = id then Q .normal s h else Q (.exit i) s h
  | x, s, h => Q x s h
theorem AWp.block {id : Nat} {c : Code} (H : AWp P T c (blkQ id Q) sl h) : AWp P T (.block id c) Q sl h := by
  intro G w a S R
  refine wp_block (wp_mono (H G w a S R) ?_)
  rintro e a' w' ⟨hd, x, s, h', G', hq, hx, hG, S', R'⟩
  cases x with
  | normal =>
    cases e <;> simp only [ExR] at hx
    exact ⟨hd, _, s, h', G', hq, trivial, hG, S', R'⟩
  | exit i =>
    cases e <;> simp only [ExR] at hx
    subst hx
    simp only [Exit.inBlock, blkQ] at hq ⊢
    split
    · rename_i hi; rw [if_pos hi] at hq; exact ⟨hd, .normal, s, h', G', hq, trivial, hG, S', R'⟩
    · rename_i hi; rw [if_neg hi] at hq; exact ⟨hd, _, s, h', G', hq, rfl, hG, S', R'⟩
  | ret =>
    cases e <;> simp only [ExR] at hx
    exact ⟨hd, _, s, h', G', hq, trivial, hG, S', R'⟩
  | pan p =>
    cases e <;> simp only [ExR] at hx
    exact ⟨hd, _, s, h', G', hq, hx, hG, S', R'⟩
/-- constants -/
def ofV : Value → AV
  | .int k n => .d (.int k n)
  | .bool b => .d (.bool b)
  | .string s => if s.size ≤ maxLen then .d (.str s.data.toList) else .any
  | .slice none 0 0 => .nils
  | .pointer none => .nilp
  | .nilFunc => .nilf
  | .nilIface => .nili
  | .agg cs => .agg (cs.toList.map fun
      | .int k n => .d (.int k n)
      | .bool b => .d (.bool b)
      | .string s => if s.size ≤ maxLen then .d (.str s.data.toList) else .any
      | .slice none 0 0 => .nils
      | .pointer none => .nilp
      | .nilFunc => .nilf
      | .nilIface => .nili
      | _ => .any)
  | _ => .any
theorem VR.ofV (G : Gh) (v : Value) : VR G (ofV v) v := by
  have key : ∀ v : Value, VR G (match v with
      | .int k n => .d (.int k n)
      | .bool b => .d (.bool b)
      | .string s => if s.size ≤ maxLen then .d (.str s.data.toList) else .any
      | .slice none 0 0 => .nils
      | .pointer none => .nilp
      | .nilFunc => .nilf
      | .nilIface => .nili
      | _ => .any) v := by
    intro v
    split
    · exact .d (.int _ _)
    · exact .d (.bool _)
    · split
      · rename_i h; exact .d (.str _ h)
      · exact .any _
    · exact .nils
    · exact .nilp
    · exact .nilf
    · exact .nili
    · exact .any _
  unfold Go.Proofs.YtnoboapafndnlaaDoor.ofV
  split
  · exact .d (.int _ _)
  · exact .d (.bool _)
  · split
    · rename_i h; exact .d (.str _ h)
    · exact .any _
  · exact .nils
  · exact .nilp
  · exact .nilf
  · exact .nili
  · rename_i cs
    have := VR.agg (G := G) (cs.toList.map fun
      | .int k n => .d (.int k n)
      | .bool b => .d (.bool b)
      | .string s => if s.size ≤ maxLen then .d (.str s.data.toList) else .any
      | .slice none 0 0 => .nils
      | .pointer none => .nilp
      | .nilFunc => .nilf
      | .nilIface => .nili
      | _ => .any) cs.toList (by simp) (fun i a v h1 h2 => by
        rw [List.getElem?_map, h2, Option.map_some] at h1
        injection h1 with h1
        rw [← h1]
        exact key v)
    simpa using this
  · exact .any _
def ev (T : Tbl) (sl : List AV) : Operand → AV
  | .tmp t => sl.getD t .any
  | .const v => ofV v
  | .global g => .elt (T g).length [T g] 0 0
  | .func f => .fn f []
theorem ev_ok {G : Gh} {w : World} {a : Act} (S : Sim T G h w) (R : SlR G sl a.tmps) (x : Operand) : VR G (ev T sl x) (a.eval x) := by
  cases x with
  | tmp t =>
    simp only [ev, Act.eval, List.getD]
    cases hs : sl[t]? with
    | none => exact .any _
    | some b =>
      obtain ⟨v, h1, h2⟩ := R.2 t b hs
      simpa [Array.getD_eq_getD_getElem?, h1] using h2
  | const v => exact VR.ofV G v
  | global g =>
    have := VR.elt (G := G) (T g).length [T g] 0 0 g 0 (fun j => (G.frz g j).getD Go.undef) (T g) rfl (fun j x hx => by
      obtain ⟨u, h1, _⟩ := S.glob g j x hx
      simp [h1]) (fun j x hx => by
      obtain ⟨u, h1, h2⟩ := S.glob g j x hx
      simpa [h1] using h2)
    exact this
  | func f => exact VR.fn (G := G) f [] [] rfl (by simp)
theorem AWp.cond {c : Operand} {x y : Code} (b : Bool) (hc : ev T sl c = .d (.bool b)) (ht : b = true → AWp P T x Q sl h) (hf : b = false → AWp P T y Q sl h) : AWp P T (.cond c x y) Q sl h := by
  intro G w a S R
  have hv := ev_ok S R c
  rw [hc] at hv
  have hv : a.eval c = .bool b := by cases hv with | d h => exact h.bool_inv
  exact wp_cond_split hv (fun e => ht e G w a S R) (fun e => hf e G w a S R)
/-- slots that are kept -/
def keepA (ks : List Nat) : Nat → List AV → List AV
  | _, [] => []
  | i, a :: r => (if ks.contains i = true then a else .any) :: keepA ks (i + 1) r
theorem keepA_len (ks : List Nat) : ∀ (i : Nat) (l : List AV), (keepA ks i l).length = l.length
  | _, [] => rfl
  | i, a :: r => by simp [keepA, keepA_len ks (i + 1) r]
theorem keepA_get (ks : List Nat) : ∀ (i : Nat) (l : List AV) (j : Nat) (a : AV), (keepA ks i l)[j]? = some a → l[j]? = some a ∨ (a = .any ∧ ∃ b, l[j]? = some b)
  | _, [], _, _, e => by simp [keepA] at e
  | i, b :: r, 0, a, e => by
    simp only [keepA, List.getElem?_cons_zero, Option.some.injEq] at e
    split at e
    · exact .inl (by simp [e])
    · exact .inr ⟨e.symm, b, rfl⟩
  | i, b :: r, j + 1, a, e => by
    simp only [keepA, List.getElem?_cons_succ] at e ⊢
    exact keepA_get ks (i + 1) r j a e
theorem SlR.keep {G : Gh} {tmps : Array Value} (R : SlR G sl tmps) (ks : List Nat) : SlR G (keepA ks 0 sl) tmps :=
  ⟨by rw [keepA_len]; exact R.1, fun i a e => by
    rcases keepA_get ks 0 sl i a e with h1 | ⟨rfl, b, h1⟩
    · exact R.2 i a h1
    · obtain ⟨v, h2, _⟩ := R.2 i b h1; exact ⟨v, h2, .any v⟩⟩
theorem AWp.keep {c : Code} (ks : List Nat) (H : AWp P T c Q (keepA ks 0 sl) h) : AWp P T c Q sl h := fun G w a S R => H G w a S (R.keep ks)
/-- a loop: I n s h, with n to fall; the slots ks are spoken of -/
theorem AWp.loop {c : Code} (ks : List Nat) (I : Nat → List AV → AH → Prop) (h0 : ∃ n, I n (keepA ks 0 sl) h)
    (round : ∀ n s h, I n s h → AWp P T c (thenQ (fun s' h' => ∃ n' x y, n' < n ∧ I n' (keepA ks 0 s') ⟨h'.objs.drop x, h'.live.drop y⟩) Q) s h) : AWp P T (.loop c) Q sl h := by
  intro G w a S R
  let J : Nat → Act → World → Prop := fun n a' w' => a'.defers = a.defers ∧ ∃ s h' G', I n s h' ∧ Gle G G' ∧ Sim T G' h' w' ∧ SlR G' s a'.tmps
  have hex : ∀ a' w', (∃ n, J n a' w') → ∃ n, J n a' w' ∧ ∀ m, J m a' w' → n ≤ m := fun a' w' ⟨n, hn⟩ => by
    induction n using Nat.strongRecOn with
    | _ n ih =>
      by_cases hm : ∃ m, m < n ∧ J m a' w'
      · obtain ⟨m, hlt, hj⟩ := hm
        exact ih m hlt hj
      · exact ⟨n, hn, fun m hj => by
          rcases Nat.lt_or_ge m n with h' | h'
          · exact absurd ⟨m, h', hj⟩ hm
          · exact h'⟩
  refine wp_loop (fun a' w' => ∃ n, J n a' w') (fun a' w' => Classical.epsilon fun n => J n a' w' ∧ ∀ m, J m a' w' → n ≤ m) ?_ ?_
  · obtain ⟨n, hn⟩ := h0
    exact ⟨n, rfl, _, h, G, hn, Gle.refl G, S, R.keep ks⟩
  · intro a1 w1 hI
    obtain ⟨⟨hd, s, h', G', hi, hG, S', R'⟩, hmin⟩ := Classical.epsilon_spec (p := fun n => J n a1 w1 ∧ ∀ m, J m a1 w1 → n ≤ m) (hex a1 w1 hI)
    refine wp_mono (round _ s h' hi G' w1 a1 S' R') ?_
    rintro e a2 w2 ⟨hd2, x, s2, h2, G2, hq, hx, hG2, S2, R2⟩
    cases x with
    | normal =>
      cases e <;> simp only [ExR] at hx
      obtain ⟨n', x, y, hlt, hi'⟩ := hq
      have hj : J n' a2 w2 := ⟨hd2.trans hd, _, _, G2, hi', hG.trans hG2, S2.drop (List.drop_sublist ..) (List.drop_sublist ..), R2.keep ks⟩
      refine ⟨⟨n', hj⟩, ?_⟩
      have := (Classical.epsilon_spec (p := fun n => J n a2 w2 ∧ ∀ m, J m a2 w2 → n ≤ m) (hex a2 w2 ⟨n', hj⟩)).2 n' hj
      exact Nat.lt_of_le_of_lt this hlt
    | exit i =>
      cases e <;> simp only [ExR] at hx
      exact ⟨hd2.trans hd, _, s2, h2, G2, hq, hx, hG.trans hG2, S2, R2⟩
    | ret =>
      cases e <;> simp only [ExR] at hx
      exact ⟨hd2.trans hd, _, s2, h2, G2, hq, trivial, hG.trans hG2, S2, R2⟩
    | pan p =>
      cases e <;> simp only [ExR] at hx
      exact ⟨hd2.trans hd, _, s2, h2, G2, hq, hx, hG.trans hG2, S2, R2⟩
/-- a nil slice in a slot may be taken for one to append to -/
theorem AWp.ownNil {c : Code} (i k : Nat) (hi : sl[i]? = some .nils) (hk : 0 < k) (H : ∀ t, AWp P T c Q (sl.set i (.own t k [])) ⟨h.objs, t :: h.live⟩) : AWp P T c Q sl h := by
  intro G w a S R
  let G' : Gh := { G with tok := fun t => if t = G.nt then some (k, .slice none 0 0) else G.tok t, nt := G.nt + 1 }
  have hG : Gle G G' := ⟨rfl, fun _ _ _ e => e, fun _ _ _ e => .inl e, fun t x e => by
    show (if t = G.nt then _ else _) = _
    rw [if_neg (fun e' => by rw [S.fin t (by omega)] at e; cases e)]
    exact e⟩
  have S1 : Sim T G' h w := S.grow (Below.refl _ _) hG (fun t ht => by
      show (if t = G.nt then _ else _) = _
      have ht' : G.nt + 1 ≤ t := ht
      rw [if_neg (by omega)]
      exact S.fin t (by omega)) (fun _ _ _ e => .inl e) S.frz
  have hnew : tokBlk G' G.nt = none := by
    unfold tokBlk
    show (match (if G.nt = G.nt then some (k, Value.slice none 0 0) else _) with | some (_, .slice (some a) _ _) => some a.block | _ => none) = none
    rw [if_pos rfl]
  have S2 : Sim T G' ⟨h.objs, G.nt :: h.live⟩ w := by
    refine ⟨S1.below, S1.glob, S1.frz, S1.fin, S1.obj, S1.nd, fun t ht => ?_, List.pairwise_cons.2 ⟨fun t ht g h1 => ?_, S1.tdis⟩, fun t ht g hg => ?_, List.nodup_cons.2 ⟨fun hm => ?_, S.lnd⟩⟩
    · rcases List.mem_cons.1 ht with rfl | ht
      · exact ⟨k, 0, 0, none, by show (if G.nt = G.nt then _ else _) = _; rw [if_pos rfl], Nat.le_refl _, by decide, hk, fun _ => ⟨rfl, rfl⟩, fun a e => by cases e⟩
      · exact S1.liv t ht
    · rw [hnew] at h1; cases h1
    · rcases List.mem_cons.1 ht with rfl | ht
      · rw [hnew] at hg; cases hg
      · exact S1.todis t ht g hg
    · obtain ⟨_, _, _, _, e, _⟩ := (S.liv _ hm).mem
      rw [S.fin _ (Nat.le_refl _)] at e
      cases e
  have R2 : SlR G' (sl.set i (.own G.nt k [])) a.tmps := by
    refine ⟨by simpa using R.1, fun j b e => ?_⟩
    by_cases hj : i = j
    · subst hj
      rw [List.getElem?_set_self (List.getElem?_eq_some_iff.1 hi).1] at e
      injection e with e
      obtain ⟨v, h1, h2⟩ := R.2 i _ hi
      refine ⟨v, h1, ?_⟩
      have hv : v = .slice none 0 0 := by cases h2; rfl
      subst hv
      rw [← e]
      exact .own (.slc0 k none 0 (fun _ => rfl) (by decide)) (by show (if G.nt = G.nt then _ else _) = _; rw [if_pos rfl])
    · rw [List.getElem?_set_ne hj] at e
      obtain ⟨v, h1, h2⟩ := R.2 j b e
      exact ⟨v, h1, h2.mono hG⟩
  exact wp_mono (H G.nt G' w a S2 R2) fun e a' w' hh => hh.mono hG (fun _ _ _ q => q)
end
end Go.Proofs.YtnoboapafndnlaaDoor

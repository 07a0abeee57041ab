/- Patterns and texts: P1.3 in plain terms; the two ways to find out agree. -/
import Derived.Test.YtdofgjpgppaghaaBase
namespace Go.Proofs.Ytdofgjpgppaghaa
open Go.RowKit
set_option linter.unusedSimpArgs false
set_option linter.unusedVariables false
structure Pc where
  c : UInt8
  one : Bool
  many : Bool
def Pc.hit (x : Pc) (b : UInt8) : Bool := x.one || x.c == b
def plainPc (c : UInt8) : Pc := ⟨c, c.toNat == 63, c.toNat == 42⟩
def piecesOf : List UInt8 → List Pc
  | [] => []
  | [c] => [plainPc c]
  | c :: d :: r => if c.toNat = 92 then ⟨d, false, false⟩ :: piecesOf r else plainPc c :: piecesOf (d :: r)
theorem pieces_nil : piecesOf [] = [] := by simp [piecesOf]
theorem pieces_last (c : UInt8) : piecesOf [c] = [plainPc c] := by simp [piecesOf]
theorem pieces_esc (c d : UInt8) (r : List UInt8) (h : c.toNat = 92) : piecesOf (c :: d :: r) = ⟨d, false, false⟩ :: piecesOf r := by rw [piecesOf, if_pos h]
theorem pieces_plain (c : UInt8) (r : List UInt8) (h : c.toNat ≠ 92 ∨ r = []) : piecesOf (c :: r) = plainPc c :: piecesOf r := by
  cases r with
  | nil => simp [piecesOf]
  | cons d r => rcases h with h | h
                · rw [piecesOf, if_neg h]
                · cases h
theorem pieces_len : ∀ (n : Nat) (l : List UInt8), l.length ≤ n → (piecesOf l).length ≤ l.length
  | 0, l, h => by have : l = [] := List.eq_nil_of_length_eq_zero (by omega); subst this; simp [pieces_nil]
  | n + 1, [], _ => by simp [pieces_nil]
  | n + 1, [c], _ => by simp [pieces_last]
  | n + 1, c :: d :: r, h => by
    by_cases hc : c.toNat = 92
    · have := pieces_len n r (by simp at h; omega)
      rw [pieces_esc c d r hc]; simp; omega
    · have := pieces_len n (d :: r) (by simp at h ⊢; omega)
      rw [pieces_plain c _ (.inl hc)]; simp at this ⊢; omega
/-- a text fits pieces -/
def PM : List Pc → List UInt8 → Prop
  | [], s => s = []
  | x :: l, s => (x.many = true ∧ ∃ n, n ≤ s.length ∧ PM l (s.drop n)) ∨ (x.many = false ∧ ∃ b t, s = b :: t ∧ x.hit b = true ∧ PM l t)
theorem PM_nil (s : List UInt8) : PM [] s ↔ s = [] := Iff.rfl
theorem PM_many {x : Pc} (h : x.many = true) (l : List Pc) (s : List UInt8) : PM (x :: l) s ↔ ∃ n, n ≤ s.length ∧ PM l (s.drop n) := by simp [PM, h]
theorem PM_one {x : Pc} (h : x.many = false) (l : List Pc) (s : List UInt8) : PM (x :: l) s ↔ ∃ b t, s = b :: t ∧ x.hit b = true ∧ PM l t := by simp [PM, h]
theorem PM_app (l1 l2 : List Pc) : ∀ s, PM (l1 ++ l2) s ↔ ∃ n, n ≤ s.length ∧ PM l1 (s.take n) ∧ PM l2 (s.drop n) := by
  induction l1 with
  | nil =>
    intro s
    constructor
    · intro h; exact ⟨0, by omega, by simp [PM], by simpa using h⟩
    · rintro ⟨n, hn, h1, h2⟩
      have : n = 0 := by
        have h3 : (s.take n).length = 0 := by rw [(PM_nil _).1 h1]; rfl
        rw [List.length_take] at h3; omega
      subst this
      simpa using h2
  | cons x l1 ih =>
    intro s
    cases hx : x.many with
    | true =>
      rw [List.cons_append, PM_many hx]
      constructor
      · rintro ⟨n, hn, h⟩
        obtain ⟨m, hm, h1, h2⟩ := (ih _).1 h
        rw [List.length_drop] at hm
        refine ⟨n + m, by omega, (PM_many hx _ _).2 ⟨n, by rw [List.length_take]; omega, ?_⟩, by rw [← List.drop_drop]; exact h2⟩
        rw [List.drop_take, Nat.add_sub_cancel_left]
        exact h1
      · rintro ⟨n, hn, h1, h2⟩
        obtain ⟨m, hm, h3⟩ := (PM_many hx _ _).1 h1
        rw [List.length_take] at hm
        refine ⟨m, by omega, (ih _).2 ⟨n - m, by rw [List.length_drop]; omega, ?_, ?_⟩⟩
        · rw [List.drop_take] at h3; exact h3
        · rw [List.drop_drop, show m + (n - m) = n by omega]; exact h2
    | false =>
      rw [List.cons_append, PM_one hx]
      constructor
      · rintro ⟨b, t, rfl, hb, h⟩
        obtain ⟨m, hm, h1, h2⟩ := (ih _).1 h
        exact ⟨m + 1, by simp; omega, (PM_one hx _ _).2 ⟨b, t.take m, rfl, hb, h1⟩, by simpa using h2⟩
      · rintro ⟨n, hn, h1, h2⟩
        obtain ⟨b, t, e, hb, h3⟩ := (PM_one hx _ _).1 h1
        cases s with
        | nil => simp at e
        | cons c s =>
          cases n with
          | zero => simp at e
          | succ n =>
            simp only [List.take_succ_cons, List.cons.injEq] at e
            obtain ⟨rfl, rfl⟩ := e
            exact ⟨c, s, rfl, hb, (ih _).2 ⟨n, by simp at hn; omega, h3, by simpa using h2⟩⟩
theorem PM_snoc_many {x : Pc} (h : x.many = true) (l : List Pc) (s : List UInt8) : PM (l ++ [x]) s ↔ ∃ n, n ≤ s.length ∧ PM l (s.take n) := by
  rw [PM_app]
  constructor
  · rintro ⟨n, hn, h1, _⟩; exact ⟨n, hn, h1⟩
  · rintro ⟨n, hn, h1⟩
    exact ⟨n, hn, h1, (PM_many h _ _).2 ⟨(s.drop n).length, Nat.le_refl _, (PM_nil _).2 (List.drop_eq_nil_of_le (Nat.le_refl _))⟩⟩
theorem PM_snoc_one {x : Pc} (h : x.many = false) (l : List Pc) (s : List UInt8) (b : UInt8) : PM (l ++ [x]) (s ++ [b]) ↔ PM l s ∧ x.hit b = true := by
  rw [PM_app]
  constructor
  · rintro ⟨n, hn, h1, h2⟩
    obtain ⟨c, t, e, hc, ht⟩ := (PM_one h _ _).1 h2
    have ht' := (PM_nil _).1 ht
    subst ht'
    have hl := congrArg List.length e
    simp at hl hn
    have hn' : n = s.length := by omega
    subst hn'
    rw [List.drop_left] at e
    injection e with e _
    subst e
    rw [List.take_left] at h1
    exact ⟨h1, hc⟩
  · rintro ⟨h1, h2⟩
    exact ⟨s.length, by simp, by rw [List.take_left]; exact h1, by rw [List.drop_left]; exact (PM_one h _ _).2 ⟨b, [], rfl, h2, rfl⟩⟩
theorem PM_snoc_nil {x : Pc} (h : x.many = false) (l : List Pc) : ¬ PM (l ++ [x]) [] := by
  rw [PM_app]
  rintro ⟨n, hn, h1, h2⟩
  obtain ⟨c, t, e, _⟩ := (PM_one h _ _).1 h2
  simp at e
/-- pieces that take one byte each -/
def Ones (l : List Pc) : Prop := ∀ x ∈ l, x.many = false
theorem PM_ones {l : List Pc} (h : Ones l) : ∀ {s : List UInt8}, PM l s → s.length = l.length := by
  induction l with
  | nil => intro s hs; rw [(PM_nil _).1 hs]; rfl
  | cons x l ih =>
    intro s hs
    obtain ⟨b, t, rfl, _, ht⟩ := (PM_one (h x (by simp)) _ _).1 hs
    have := ih (fun y hy => h y (by simp [hy])) ht
    simp [this]
theorem PM_seg {l m : List Pc} (h : Ones l) {u v : List UInt8} (hu : u.length = l.length) : PM (l ++ m) (u ++ v) ↔ PM l u ∧ PM m v := by
  rw [PM_app]
  constructor
  · rintro ⟨n, hn, h1, h2⟩
    have h3 := PM_ones h h1
    rw [List.length_take, List.length_append] at h3
    rw [List.length_append] at hn
    have hn' : n = u.length := by omega
    subst hn'
    rw [List.take_left] at h1
    rw [List.drop_left] at h2
    exact ⟨h1, h2⟩
  · rintro ⟨h1, h2⟩
    exact ⟨u.length, by simp, by rw [List.take_left]; exact h1, by rw [List.drop_left]; exact h2⟩
theorem PM_end : ∀ l : List Pc, PM l [] ↔ ∀ x ∈ l, x.many = true := by
  intro l
  induction l with
  | nil => simp [PM]
  | cons x l ih =>
    cases hx : x.many with
    | true => rw [PM_many hx]; simp [ih, hx]
    | false =>
      rw [PM_one hx]
      simp [hx]
def Later (l : List Pc) (s : List UInt8) (j fr : Nat) : Prop := ∃ n, fr ≤ n ∧ n ≤ s.length ∧ PM (l.drop (j + 1)) (s.drop n)
/-- the last star takes one more: what the loop knows -/
structure Gr (l : List Pc) (s : List UInt8) (i k : Nat) (st : Option Nat) (fr : Nat) : Prop where
  hi : i ≤ s.length
  hk : k ≤ l.length
  hf : fr ≤ i
  none_ : st = none → fr = 0 ∧ (PM l s ↔ PM (l.drop k) (s.drop i))
  some_ : ∀ j, st = some j → j + 1 ≤ k ∧ k - (j + 1) = i - fr ∧ Ones ((l.drop (j + 1)).take (k - (j + 1))) ∧ PM ((l.drop (j + 1)).take (k - (j + 1))) ((s.drop fr).take (i - fr)) ∧
    (PM l s ↔ Later l s j fr)
theorem Gr.start (l : List Pc) (s : List UInt8) : Gr l s 0 0 none 0 := ⟨by omega, by omega, by omega, fun _ => ⟨rfl, by simp⟩, fun _ h => by cases h⟩
section
variable {l : List Pc} {s : List UInt8} {i k fr : Nat} {st : Option Nat}
theorem cut_drop {α : Type} (l : List α) (a k : Nat) (h : a ≤ k) : l.drop a = (l.drop a).take (k - a) ++ l.drop k := by
  conv => lhs; rw [← List.take_append_drop (k - a) (l.drop a)]
  rw [List.drop_drop, show a + (k - a) = k by omega]
theorem drop_at {α : Type} {l : List α} {k : Nat} {x : α} (h : l[k]? = some x) : l.drop k = x :: l.drop (k + 1) := by
  obtain ⟨hk, e⟩ := List.getElem?_eq_some_iff.1 h
  rw [List.drop_eq_getElem_cons hk, e]
theorem Gr.seg (h : Gr l s i k st fr) {j : Nat} (hj : st = some j) (n : Nat) (hn : n = fr) : (PM (l.drop (j + 1)) (s.drop n) ↔ PM (l.drop k) (s.drop i)) := by
  obtain ⟨h1, h2, h3, h4, h5⟩ := h.some_ j hj
  have hf := h.hf
  have hi := h.hi
  have hk := h.hk
  subst hn
  rw [cut_drop l (j + 1) k h1, cut_drop s n i hf, PM_seg h3 (by rw [List.length_take, List.length_take, List.length_drop, List.length_drop]; omega)]
  exact ⟨fun h => h.2, fun h => ⟨h4, h⟩⟩
theorem Gr.many (h : Gr l s i k st fr) {x : Pc} (hx : l[k]? = some x) (hm : x.many = true) : Gr l s i (k + 1) (some k) i := by
  have hk' := (List.getElem?_eq_some_iff.1 hx).1
  have hi := h.hi
  refine ⟨h.hi, by omega, Nat.le_refl _, fun h => by (cases h), fun j hj => ?_⟩
  injection hj with hj
  subst hj
  refine ⟨Nat.le_refl _, by omega, by simp [Ones], by simp [PM], ?_⟩
  have key : PM (l.drop k) (s.drop i) ↔ Later l s k i := by
    rw [drop_at hx, PM_many hm]
    constructor
    · rintro ⟨n, hn, h1⟩
      rw [List.length_drop] at hn
      rw [List.drop_drop] at h1
      exact ⟨i + n, by omega, by omega, h1⟩
    · rintro ⟨n, h1, h2, h3⟩
      exact ⟨n - i, by rw [List.length_drop]; omega, by rw [List.drop_drop, show i + (n - i) = n by omega]; exact h3⟩
  cases st with
  | none => exact (h.none_ rfl).2.trans key
  | some j =>
    obtain ⟨h1, h2, h3, h4, h5⟩ := h.some_ j rfl
    rw [h5]
    constructor
    · rintro ⟨n, hn, hns, hp⟩
      rw [cut_drop l (j + 1) k h1, PM_app] at hp
      obtain ⟨m, hm', hp1, hp2⟩ := hp
      have hl := PM_ones h3 hp1
      rw [List.length_take, List.length_take, List.length_drop, List.length_drop] at hl
      rw [List.length_drop] at hm'
      rw [List.drop_drop] at hp2
      rw [drop_at hx] at hp2
      obtain ⟨q, hq, hp3⟩ := (PM_many hm _ _).1 hp2
      rw [List.length_drop] at hq
      rw [List.drop_drop] at hp3
      have := h.hf
      exact ⟨n + m + q, by omega, by omega, hp3⟩
    · intro hp
      exact ⟨fr, Nat.le_refl _, by have := h.hf; omega, (h.seg rfl fr rfl).2 (key.2 hp)⟩
theorem Gr.hit (h : Gr l s i k st fr) {x : Pc} {b : UInt8} (hx : l[k]? = some x) (hb : s[i]? = some b) (hm : x.many = false) (hh : x.hit b = true) : Gr l s (i + 1) (k + 1) st fr := by
  have hk' := (List.getElem?_eq_some_iff.1 hx).1
  have hi' := (List.getElem?_eq_some_iff.1 hb).1
  have hf := h.hf
  refine ⟨by omega, by omega, by omega, fun e => ⟨(h.none_ e).1, (h.none_ e).2.trans ?_⟩, fun j hj => ?_⟩
  · rw [drop_at hx, drop_at hb, PM_one hm]
    constructor
    · rintro ⟨c, t, e, _, ht⟩
      injection e with e1 e2
      subst e2
      exact ht
    · intro ht; exact ⟨b, _, rfl, hh, ht⟩
  · obtain ⟨h1, h2, h3, h4, h5⟩ := h.some_ j hj
    have e1 : (l.drop (j + 1)).take (k + 1 - (j + 1)) = (l.drop (j + 1)).take (k - (j + 1)) ++ [x] := by
      rw [show k + 1 - (j + 1) = k - (j + 1) + 1 by omega, List.take_add_one, List.getElem?_drop, show j + 1 + (k - (j + 1)) = k by omega, hx]; rfl
    have e2 : (s.drop fr).take (i + 1 - fr) = (s.drop fr).take (i - fr) ++ [b] := by
      rw [show i + 1 - fr = i - fr + 1 by omega, List.take_add_one, List.getElem?_drop, show fr + (i - fr) = i by omega, hb]; rfl
    refine ⟨by omega, by omega, ?_, ?_, h5⟩
    · rw [e1]
      intro y hy
      rcases List.mem_append.1 hy with hy | hy
      · exact h3 y hy
      · rw [List.mem_singleton.1 hy]; exact hm
    · rw [e1, e2]
      exact (PM_snoc_one hm _ _ _).2 ⟨h4, hh⟩
/-- what stands at k does not fit what stands at i -/
def Miss (l : List Pc) (s : List UInt8) (i k : Nat) : Prop := i < s.length ∧ ∀ x, l[k]? = some x → x.many = false ∧ ∀ b, s[i]? = some b → x.hit b = false
theorem Miss.no (h : Miss l s i k) : ¬ PM (l.drop k) (s.drop i) := by
  obtain ⟨hi, hx⟩ := h
  have hb : s[i]? = some s[i] := List.getElem?_eq_getElem hi
  by_cases hk : k < l.length
  · have hx' := hx l[k] (List.getElem?_eq_getElem hk)
    rw [drop_at (List.getElem?_eq_getElem hk), drop_at hb, PM_one hx'.1]
    rintro ⟨c, t, e, hc, _⟩
    injection e with e1 e2
    subst e1
    rw [hx'.2 _ hb] at hc
    cases hc
  · rw [List.drop_eq_nil_of_le (by omega), PM_nil, drop_at hb]
    intro e; cases e
theorem Gr.miss_none (h : Gr l s i k none fr) (hm : Miss l s i k) : ¬ PM l s := fun hp => hm.no ((h.none_ rfl).2.1 hp)
theorem Gr.miss_some {j : Nat} (h : Gr l s i k (some j) fr) (hm : Miss l s i k) : Gr l s (fr + 1) (j + 1) (some j) (fr + 1) := by
  obtain ⟨h1, h2, h3, h4, h5⟩ := h.some_ j rfl
  have hf := h.hf
  have hi := hm.1
  have hk := h.hk
  refine ⟨by omega, by omega, by omega, fun h => by (cases h), fun j' hj => ?_⟩
  injection hj with hj
  subst hj
  refine ⟨Nat.le_refl _, by omega, by simp [Ones], by simp [PM], ?_⟩
  rw [h5]
  constructor
  · rintro ⟨n, hn, hns, hp⟩
    by_cases e : n = fr
    · exact absurd ((h.seg rfl n e).1 hp) hm.no
    · exact ⟨n, by omega, hns, hp⟩
  · rintro ⟨n, hn, hns, hp⟩
    exact ⟨n, by omega, hns, hp⟩
theorem Gr.end_ (h : Gr l s s.length k st fr) : PM l s ↔ ∀ x ∈ l.drop k, x.many = true := by
  rw [← PM_end]
  cases st with
  | none =>
    have := (h.none_ rfl).2
    rw [List.drop_eq_nil_of_le (Nat.le_refl _)] at this
    exact this
  | some j =>
    obtain ⟨h1, h2, h3, h4, h5⟩ := h.some_ j rfl
    have key := h.seg rfl fr rfl
    rw [List.drop_eq_nil_of_le (Nat.le_refl s.length)] at key
    have hk := h.hk
    have hf := h.hf
    rw [h5]
    constructor
    · rintro ⟨n, hn, hns, hp⟩
      have : n = fr := by
        rw [cut_drop l (j + 1) k h1, PM_app] at hp
        obtain ⟨m, hm', hp1, hp2⟩ := hp
        have hl := PM_ones h3 hp1
        rw [List.length_take, List.length_take, List.length_drop, List.length_drop] at hl
        rw [List.length_drop] at hm'
        omega
      subst this
      exact key.1 hp
    · intro hp
      exact ⟨fr, Nat.le_refl _, h.hf, key.2 hp⟩
end
end Go.Proofs.Ytdofgjpgppaghaa

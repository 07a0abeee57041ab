/- Texts that the laws rest on, packed. -/
import Derived.Lib.IndexBytes
import Derived.Test.YthhfbolhlbgbgaaDoorGA
import Derived.Test.YthhfbolhlbgbgaaDoorProg
namespace Go.Proofs.YthhfbolhlbgbgaaDoor
def marksL : List UInt8 := [33, 35, 36, 37, 38, 39, 42, 43, 45, 47, 61, 63, 94, 95, 123, 124, 125, 126, 96]
def alnumB (c : UInt8) : Bool := (97 ≤ c.toNat && c.toNat ≤ 122) || (65 ≤ c.toNat && c.toNat ≤ 90) || (48 ≤ c.toNat && c.toNat ≤ 57)
def atomB (c : UInt8) : Bool := alnumB c || decide (0 ≤ Lib.indexByte marksL c)
def dotGo : Bool → List UInt8 → Bool
  | d, [] => !d
  | d, c :: r => if c = 46 then !d && dotGo true r else atomB c && dotGo false r
end Go.Proofs.YthhfbolhlbgbgaaDoor

namespace Go.Proofs.YthhfbolhlbgbgaaDoor
set_option linter.unusedSimpArgs false
set_option linter.unusedVariables false
abbrev Tx := List UInt8
def adrE (l d : Tx) : Int := if dotGo true l = false ∨ dotGo true d = false then 3 else if 99 < l.length + d.length then 1 else 0
theorem adrE_nil_l (d : Tx) : adrE [] d ≠ 0 := by simp [adrE, dotGo]
theorem adrE_nil_d (l : Tx) : adrE l [] ≠ 0 := by simp [adrE, dotGo]
abbrev Ad := Tx × Tx
def blkB (c : UInt8) : Bool := c == 32 || c == 9
def runB (c : UInt8) : Bool := atomB c || c == 46
def skipS : Tx → Tx := List.dropWhile blkB
def runS : Tx → Tx := List.takeWhile runB
def offS : Tx → Tx := List.dropWhile runB
/-- behind something quoted, whose first mark was read -/
def quoS : Tx → Option Tx
  | [] => none
  | [c] => if c = 34 then some [] else none
  | c :: x :: r => if c = 34 then some (x :: r) else if c = 92 then quoS r else quoS (x :: r)
def bareS (l : Tx) : Tx → Option (Ad × Tx)
  | [] => none
  | c :: r => if c = 64 ∧ adrE l (runS r) = 0 then some ((l, runS r), offS r) else none
theorem skip_le (s : Tx) : (skipS s).length ≤ s.length := by unfold skipS; exact (List.dropWhile_sublist _).length_le
theorem off_le (s : Tx) : (offS s).length ≤ s.length := by unfold offS; exact (List.dropWhile_sublist _).length_le
theorem run_off (s : Tx) : runS s ++ offS s = s := List.takeWhile_append_dropWhile ..
theorem off_lt (s : Tx) (h : runS s ≠ []) : (offS s).length < s.length := by
  have := congrArg List.length (run_off s)
  have h2 : 0 < (runS s).length := List.length_pos_iff.2 h
  simp only [List.length_append] at this
  omega
theorem quo_lt : ∀ (s r : Tx), quoS s = some r → r.length < s.length
  | [], r, h => by simp [quoS] at h
  | [c], r, h => by
    simp only [quoS] at h
    split at h
    · injection h with h; subst h; simp
    · cases h
  | c :: x :: s, r, h => by
    simp only [quoS] at h
    split at h
    · injection h with h; subst h; simp
    · split at h
      · have := quo_lt s r h; simp; omega
      · have := quo_lt (x :: s) r h; simp at this ⊢; omega
theorem bare_le {l s : Tx} {a : Ad} {r : Tx} (h : bareS l s = some (a, r)) : r.length < s.length := by
  cases s with
  | nil => simp [bareS] at h
  | cons c s =>
    simp only [bareS] at h
    split at h
    · injection h with h; injection h with h1 h2; subst h2
      have := off_le s
      simp; omega
    · cases h
def gtS : Option (Ad × Tx) → Option (Ad × Tx)
  | some (a, c :: r) => if c = 62 then some (a, r) else none
  | _ => none
/-- an address, byte by byte; first: no word was read -/
def addrS (first : Bool) (s : Tx) : Option (Ad × Tx) :=
  if (skipS s).head? = some 34 then
    match h : quoS (skipS s).tail with
    | none => none
    | some r => addrS false r
  else if (skipS s).head? = some 60 then gtS (bareS (runS (skipS s).tail) (offS (skipS s).tail))
  else if first = true ∧ (offS (skipS s)).head? = some 64 then bareS (runS (skipS s)) (offS (skipS s))
  else if h : runS (skipS s) = [] then none else addrS false (offS (skipS s))
  termination_by s.length
  decreasing_by
    · have h1 := quo_lt _ _ h
      have h2 := skip_le s
      have h3 : (skipS s).tail.length ≤ (skipS s).length := by simp
      omega
    · have h1 := off_lt _ h
      have h2 := skip_le s
      omega
theorem gt_lt {o : Option (Ad × Tx)} {a : Ad} {r : Tx} (h : gtS o = some (a, r)) : ∃ q, o = some (a, 62 :: q) ∧ r = q := by
  unfold gtS at h
  split at h
  · split at h
    · rename_i hc; subst hc; injection h with h; injection h with h1 h2; exact ⟨_, by rw [h1], h2.symm⟩
    · cases h
  · cases h
theorem addr_lt (n : Nat) : ∀ (first : Bool) (s : Tx) (a : Ad) (r : Tx), s.length ≤ n → addrS first s = some (a, r) → r.length < s.length := by
  induction n with
  | zero =>
    intro first s a r hs h
    have : s = [] := List.eq_nil_of_length_eq_zero (by omega)
    subst this
    unfold addrS at h
    simp [skipS, offS, runS] at h
  | succ n ih =>
    intro first s a r hs h
    have hk := skip_le s
    unfold addrS at h
    split at h
    · rename_i h0
      split at h
      · cases h
      · rename_i q hq
        have h1 := quo_lt _ _ hq
        have h2 : (skipS s).tail.length + 1 = (skipS s).length := by
          cases e : skipS s with
          | nil => rw [e] at h0; simp at h0
          | cons c t => simp
        have := ih false q a r (by omega) h
        omega
    · split at h
      · obtain ⟨q, h1, rfl⟩ := gt_lt h
        have h2 := bare_le h1
        have h3 := off_le (skipS s).tail
        have h4 : (skipS s).tail.length ≤ (skipS s).length := by simp
        simp at h2
        omega
      · split at h
        · have := bare_le h
          have := off_le (skipS s)
          omega
        · split at h
          · cases h
          · rename_i h0
            have h1 := off_lt _ h0
            have := ih false _ a r (by omega) h
            omega
/-- a list, byte by byte -/
def listS (s : Tx) : Option (List Ad) :=
  match h : addrS true s with
  | none => none
  | some (a, r) =>
    match h2 : skipS r with
    | [] => some [a]
    | c :: q => if c = 44 then (listS q).map (a :: ·) else none
  termination_by s.length
  decreasing_by
    have h1 := addr_lt _ true s a r (Nat.le_refl _) h
    have h3 := skip_le r
    rw [h2] at h3
    simp at h3
    omega

/-! bit by bit -/
structure Bt where
  text : Tx
  run : Bool
  quo : Bool
  apart : Bool
def bitsS (ap : Bool) (s : Tx) : Option (List Bt) :=
  match s with
  | [] => some []
  | c :: r =>
    if blkB c = true then bitsS true r
    else if h : runB c = true then (bitsS false (offS (c :: r))).map (⟨runS (c :: r), true, false, ap⟩ :: ·)
    else if c ≠ 34 then (bitsS false r).map (⟨[c], false, false, ap⟩ :: ·)
    else match h2 : quoS r with
      | none => none
      | some q => (bitsS false q).map (⟨[], false, true, ap⟩ :: ·)
  termination_by s.length
  decreasing_by
    · simp
    · exact off_lt _ (by simp [runS, h])
    · simp
    · have := quo_lt _ _ h2; simp; omega
def plainB : List Bt → Option (Ad × List Bt)
  | a :: b :: c :: t => if a.run = true ∧ b.text = [64] ∧ c.run = true ∧ b.apart = false ∧ c.apart = false ∧ adrE a.text c.text = 0 then some ((a.text, c.text), t) else none
  | _ => none
def wordB (b : Bt) : Bool := b.run || b.quo
def angB : List Bt → Option (Ad × List Bt)
  | [] => none
  | x :: l => if x.text = [60] then
      match plainB l with
      | some (a, y :: t) => if l.head?.map Bt.apart = some false ∧ y.text = [62] ∧ y.apart = false then some (a, t) else none
      | _ => none
    else none
def addrB (l : List Bt) : Option (Ad × List Bt) :=
  match plainB l with
  | some x => some x
  | none => angB (l.dropWhile wordB)
theorem plainB_len {l : List Bt} {a : Ad} {t : List Bt} (h : plainB l = some (a, t)) : t.length + 3 = l.length := by
  unfold plainB at h
  split at h
  · split at h
    · injection h with h; injection h with h1 h2; subst h2; simp
    · cases h
  · cases h
theorem angB_len {l : List Bt} {a : Ad} {t : List Bt} (h : angB l = some (a, t)) : t.length < l.length := by
  cases l with
  | nil => simp [angB] at h
  | cons x l =>
    simp only [angB] at h
    split at h
    · split at h
      · rename_i a' y t' hp
        have := plainB_len hp
        split at h
        · injection h with h; injection h with h1 h2; subst h2; simp at this ⊢; omega
        · cases h
      · cases h
    · cases h
theorem addrB_len {l : List Bt} {a : Ad} {t : List Bt} (h : addrB l = some (a, t)) : t.length < l.length := by
  unfold addrB at h
  split at h
  · rename_i hp; injection h with h; subst h; have := plainB_len hp; omega
  · have := angB_len h
    have h2 := (List.dropWhile_sublist (l := l) wordB).length_le
    omega
def listB (l : List Bt) : Option (List Ad) :=
  match h : addrB l with
  | none => none
  | some (a, []) => some [a]
  | some (a, x :: t) => if x.text = [44] then (listB t).map (a :: ·) else none
  termination_by l.length
  decreasing_by
    have := addrB_len h
    simp at this
    omega
end Go.Proofs.YthhfbolhlbgbgaaDoor

namespace Go.Proofs.YthhfbolhlbgbgaaDoor
set_option linter.unusedSimpArgs false
set_option linter.unusedVariables false
theorem run_blank {c : UInt8} (h : blkB c = true) : runB c = false := by
  simp only [blkB, Bool.or_eq_true, beq_iff_eq] at h
  rcases h with rfl | rfl <;> decide
theorem run34 : runB 34 = false := by decide
theorem run60 : runB 60 = false := by decide
theorem run62 : runB 62 = false := by decide
theorem run64 : runB 64 = false := by decide
theorem run44 : runB 44 = false := by decide
theorem blk34 : blkB 34 = false := by decide
theorem blk60 : blkB 60 = false := by decide
theorem blk62 : blkB 62 = false := by decide
theorem blk64 : blkB 64 = false := by decide
theorem blk44 : blkB 44 = false := by decide
theorem bits_nil (ap : Bool) : bitsS ap [] = some [] := by unfold bitsS; rfl
theorem bits_blank {c : UInt8} {r : Tx} {ap : Bool} (h : blkB c = true) : bitsS ap (c :: r) = bitsS true r := by rw [bitsS]; simp [h]
theorem bits_run {c : UInt8} {r : Tx} {ap : Bool} (h : runB c = true) : bitsS ap (c :: r) = (bitsS false (offS (c :: r))).map (⟨runS (c :: r), true, false, ap⟩ :: ·) := by
  have hb : blkB c = false := by
    cases e : blkB c with
    | false => rfl
    | true => rw [run_blank e] at h; cases h
  rw [bitsS]; simp [h, hb]
theorem bits_one {c : UInt8} {r : Tx} {ap : Bool} (hb : blkB c = false) (h : runB c = false) (hq : c ≠ 34) : bitsS ap (c :: r) = (bitsS false r).map (⟨[c], false, false, ap⟩ :: ·) := by rw [bitsS]; simp [h, hb, hq]
theorem bits_quo {r : Tx} {ap : Bool} : bitsS ap (34 :: r) = match quoS r with | none => none | some q => (bitsS false q).map (⟨[], false, true, ap⟩ :: ·) := by
  rw [bitsS]
  simp only [blk34, run34, Bool.false_eq_true, if_false, dite_false, ne_eq, not_true_eq_false]
  split <;> rename_i h <;> rw [h]
theorem bits_quoN {r : Tx} {ap : Bool} (h : quoS r = none) : bitsS ap (34 :: r) = none := by rw [bits_quo, h]
theorem bits_quoS {r q : Tx} {ap : Bool} (h : quoS r = some q) : bitsS ap (34 :: r) = (bitsS false q).map (⟨[], false, true, ap⟩ :: ·) := by rw [bits_quo, h]
theorem skip_cons {c : UInt8} {r : Tx} (h : blkB c = true) : skipS (c :: r) = skipS r := by unfold skipS; rw [List.dropWhile_cons, if_pos h]
theorem skip_stay {c : UInt8} {r : Tx} (h : blkB c = false) : skipS (c :: r) = c :: r := by unfold skipS; rw [List.dropWhile_cons, if_neg (by rw [h]; decide)]
theorem skip_head : ∀ (s : Tx) (c : UInt8) (r : Tx), skipS s = c :: r → blkB c = false
  | [], c, r, h => by simp [skipS] at h
  | x :: s, c, r, h => by
    cases e : blkB x with
    | true => rw [skip_cons e] at h; exact skip_head s c r h
    | false => rw [skip_stay e] at h; injection h with h1 h2; rw [← h1]; exact e
/-- skipped blanks only part bits -/
theorem bits_skip : ∀ (s : Tx) (ap : Bool), bitsS ap s = bitsS ap (skipS s) ∨ (bitsS ap s = bitsS true (skipS s))
  | [], ap => .inl rfl
  | c :: r, ap => by
    cases e : blkB c with
    | true =>
      rw [bits_blank e, skip_cons e]
      rcases bits_skip r true with h | h <;> exact .inr h
    | false => rw [skip_stay e]; exact .inl rfl
theorem bits_skip' (s : Tx) (ap : Bool) : ∃ ap', bitsS ap s = bitsS ap' (skipS s) := by
  rcases bits_skip s ap with h | h
  · exact ⟨_, h⟩
  · exact ⟨_, h⟩
theorem apart_true : ∀ (s : Tx) (x : Bt) (t : List Bt), bitsS true s = some (x :: t) → x.apart = true
  | [], x, t, h => by rw [bits_nil] at h; cases h
  | c :: r, x, t, h => by
    cases e : blkB c with
    | true => rw [bits_blank e] at h; exact apart_true r x t h
    | false =>
      cases e2 : runB c with
      | true => rw [bits_run e2] at h; obtain ⟨_, _, h1⟩ := Option.map_eq_some_iff.1 h; injection h1 with h1 _; rw [← h1]
      | false =>
        by_cases e3 : c = 34
        · subst e3
          cases e4 : quoS r with
          | none => rw [bits_quoN e4] at h; cases h
          | some q => rw [bits_quoS e4] at h; obtain ⟨_, _, h1⟩ := Option.map_eq_some_iff.1 h; injection h1 with h1 _; rw [← h1]
        · rw [bits_one e e2 e3] at h; obtain ⟨_, _, h1⟩ := Option.map_eq_some_iff.1 h; injection h1 with h1 _; rw [← h1]
theorem runS_cons {c : UInt8} {r : Tx} (h : runB c = true) : runS (c :: r) = c :: runS r := by unfold runS; rw [List.takeWhile_cons, if_pos h]
theorem runS_no {c : UInt8} {r : Tx} (h : runB c = false) : runS (c :: r) = [] := by unfold runS; rw [List.takeWhile_cons, if_neg (by rw [h]; decide)]
theorem offS_no {c : UInt8} {r : Tx} (h : runB c = false) : offS (c :: r) = c :: r := by unfold offS; rw [List.dropWhile_cons, if_neg (by rw [h]; decide)]
theorem runS_nil : runS [] = [] := rfl
theorem offS_nil : offS [] = [] := rfl
/-- the first bit is this mark -/
theorem head_mark {m : UInt8} (hm : runB m = false) (s : Tx) (x : Bt) (t : List Bt) (h : bitsS false s = some (x :: t)) (ht : x.text = [m]) (ha : x.apart = false) : ∃ r, s = m :: r ∧ bitsS false r = some t := by
  cases s with
  | nil => rw [bits_nil] at h; cases h
  | cons c r =>
    cases e : blkB c with
    | true => rw [bits_blank e] at h; rw [apart_true r x t h] at ha; cases ha
    | false =>
      cases e2 : runB c with
      | true =>
        rw [bits_run e2] at h; obtain ⟨_, _, h1⟩ := Option.map_eq_some_iff.1 h; injection h1 with h1 _
        rw [← h1] at ht
        dsimp only at ht
        rw [runS_cons e2] at ht
        injection ht with h3 h4
        rw [h3, hm] at e2; cases e2
      | false =>
        by_cases e3 : c = 34
        · subst e3
          cases e4 : quoS r with
          | none => rw [bits_quoN e4] at h; cases h
          | some q => rw [bits_quoS e4] at h; obtain ⟨_, _, h1⟩ := Option.map_eq_some_iff.1 h; injection h1 with h1 _; rw [← h1] at ht; cases ht
        · rw [bits_one e e2 e3] at h; obtain ⟨l, h1, h2⟩ := Option.map_eq_some_iff.1 h; injection h2 with h2 h3
          rw [← h2] at ht
          injection ht with ht
          subst ht; subst h3
          exact ⟨r, rfl, h1⟩
theorem head_run {ap : Bool} (s : Tx) (x : Bt) (t : List Bt) (h : bitsS ap s = some (x :: t)) (hr : x.run = true) : runS (skipS s) ≠ [] ∧ x.text = runS (skipS s) ∧ bitsS false (offS (skipS s)) = some t := by
  obtain ⟨ap', h'⟩ := bits_skip' s ap
  rw [h'] at h
  have hh := skip_head s
  generalize skipS s = q at h hh
  cases q with
  | nil => rw [bits_nil] at h; cases h
  | cons c r =>
    have e := hh c r rfl
    cases e2 : runB c with
    | true =>
      rw [bits_run e2] at h; obtain ⟨l, h1, h2⟩ := Option.map_eq_some_iff.1 h; injection h2 with h2 h3
      subst h3
      rw [← h2]
      exact ⟨by rw [runS_cons e2]; simp, rfl, h1⟩
    | false =>
      by_cases e3 : c = 34
      · subst e3
        cases e4 : quoS r with
        | none => rw [bits_quoN e4] at h; cases h
        | some q => rw [bits_quoS e4] at h; obtain ⟨_, _, h1⟩ := Option.map_eq_some_iff.1 h; injection h1 with h1 _; rw [← h1] at hr; cases hr
      · rw [bits_one e e2 e3] at h; obtain ⟨l, h1, h2⟩ := Option.map_eq_some_iff.1 h; injection h2 with h2 h3
        rw [← h2] at hr; cases hr
theorem skip_apart (s : Tx) (x : Bt) (t : List Bt) (h : bitsS false s = some (x :: t)) (ha : x.apart = false) : skipS s = s := by
  cases s with
  | nil => rfl
  | cons c r =>
    cases e : blkB c with
    | true => rw [bits_blank e] at h; rw [apart_true r x t h] at ha; cases ha
    | false => exact skip_stay e
theorem bits_runs {ap : Bool} {s : Tx} (h : runS s ≠ []) : bitsS ap s = (bitsS false (offS s)).map (⟨runS s, true, false, ap⟩ :: ·) := by
  cases s with
  | nil => exact absurd rfl h
  | cons c r =>
    cases e : runB c with
    | true => exact bits_run e
    | false => rw [runS_no e] at h; exact absurd rfl h
/-- what a plain address reads as -/
theorem plain_fw {ap : Bool} {s : Tx} {l : List Bt} (h : bitsS ap s = some l) {a : Ad} {t : List Bt} (hp : plainB l = some (a, t)) : ∃ r, bareS (runS (skipS s)) (offS (skipS s)) = some (a, r) ∧ bitsS false r = some t := by
  unfold plainB at hp
  split at hp
  · rename_i x y z t'
    split at hp
    · rename_i hc
      obtain ⟨c1, c2, c3, c4, c5, c6⟩ := hc
      injection hp with hp; injection hp with hp1 hp2; subst hp2
      obtain ⟨h1, h2, h3⟩ := head_run _ _ _ h c1
      obtain ⟨q, h4, h5⟩ := head_mark run64 _ _ _ h3 c2 c4
      obtain ⟨h6, h7, h8⟩ := head_run _ _ _ h5 c3
      have h9 := skip_apart _ _ _ h5 c5
      rw [h9] at h7 h8
      refine ⟨offS q, ?_, h8⟩
      rw [h4, bareS, if_pos ⟨rfl, by rw [← h2, ← h7]; exact c6⟩, ← hp1, h2, h7]
    · cases hp
  · cases hp
theorem bare_inv {w q : Tx} {a : Ad} {r : Tx} (h : bareS w q = some (a, r)) : ∃ p, q = 64 :: p ∧ adrE w (runS p) = 0 ∧ a = (w, runS p) ∧ r = offS p ∧ w ≠ [] ∧ runS p ≠ [] := by
  cases q with
  | nil => simp [bareS] at h
  | cons c p =>
    simp only [bareS] at h
    split at h
    · rename_i hc
      injection h with h; injection h with h1 h2
      refine ⟨p, by rw [hc.1], hc.2, h1.symm, h2.symm, fun e => ?_, fun e => ?_⟩
      · rw [e] at hc; exact adrE_nil_l _ hc.2
      · rw [e] at hc; exact adrE_nil_d _ hc.2
    · cases h
theorem bare_bits {w q : Tx} {a : Ad} {r : Tx} (h : bareS w q = some (a, r)) : bitsS false q = (bitsS false r).map (fun t => ⟨[64], false, false, false⟩ :: ⟨a.2, true, false, false⟩ :: t) := by
  obtain ⟨p, rfl, h2, rfl, rfl, h5, h6⟩ := bare_inv h
  rw [bits_one blk64 run64 (by decide), bits_runs h6]
  cases bitsS false (offS p) <;> rfl
theorem plain_bw {ap : Bool} {s : Tx} {a : Ad} {r : Tx} (hb : bareS (runS (skipS s)) (offS (skipS s)) = some (a, r)) : ∃ ap', bitsS ap s = (bitsS false r).map (fun t => ⟨a.1, true, false, ap'⟩ :: ⟨[64], false, false, false⟩ :: ⟨a.2, true, false, false⟩ :: t) ∧ ∀ t, plainB (⟨a.1, true, false, ap'⟩ :: ⟨[64], false, false, false⟩ :: ⟨a.2, true, false, false⟩ :: t) = some (a, t) := by
  obtain ⟨ap', h'⟩ := bits_skip' s ap
  obtain ⟨p, h1, h2, h3, h4, h5, h6⟩ := bare_inv hb
  refine ⟨ap', ?_, fun t => ?_⟩
  · rw [h', bits_runs h5, bare_bits hb, h3]
    cases bitsS false r <;> rfl
  · rw [h3]; simp [plainB, h2]
theorem gt_bits {q : Tx} {a : Ad} {r : Tx} (h : gtS (bareS (runS q) (offS q)) = some (a, r)) : bareS (runS q) (offS q) = some (a, 62 :: r) := by
  obtain ⟨p, h1, h2⟩ := gt_lt h
  rw [h1, h2]
theorem ang_bw {q : Tx} {ap : Bool} {a : Ad} {r : Tx} (h : gtS (bareS (runS q) (offS q)) = some (a, r)) : ∃ pre, bitsS ap (60 :: q) = (bitsS false r).map (pre ++ ·) ∧ ∀ t, angB (pre ++ t) = some (a, t) ∧ (pre ++ t).dropWhile wordB = pre ++ t := by
  have hb := gt_bits h
  obtain ⟨p, h1, h2, h3, h4, h5, h6⟩ := bare_inv hb
  refine ⟨[⟨[60], false, false, ap⟩, ⟨a.1, true, false, false⟩, ⟨[64], false, false, false⟩, ⟨a.2, true, false, false⟩, ⟨[62], false, false, false⟩], ?_, fun t => ?_⟩
  · rw [bits_one blk60 run60 (by decide), bits_runs h5, bare_bits hb, bits_one blk62 run62 (by decide), h3]
    cases bitsS false r <;> rfl
  · rw [h3]; simp [angB, plainB, h2, wordB]
theorem ang_fw {q : Tx} {ap : Bool} {l : List Bt} (h : bitsS ap (60 :: q) = some l) {a : Ad} {t : List Bt} (ha : angB l = some (a, t)) : ∃ r, gtS (bareS (runS q) (offS q)) = some (a, r) ∧ bitsS false r = some t := by
  rw [bits_one blk60 run60 (by decide)] at h
  cases e : bitsS false q with
  | none => rw [e] at h; cases h
  | some l' =>
    rw [e] at h
    injection h with h
    subst h
    simp only [angB, if_true] at ha
    split at ha
    · rename_i a' y t' hp
      split at ha
      · rename_i hc
        obtain ⟨c1, c2, c3⟩ := hc
        injection ha with ha; injection ha with h1 h2
        subst h1; subst h2
        obtain ⟨r, hr1, hr2⟩ := plain_fw e hp
        have hsk : skipS q = q := by
          cases l' with
          | nil => simp at c1
          | cons z l'' => simp at c1; exact skip_apart _ _ _ e c1
        rw [hsk] at hr1
        obtain ⟨r2, hr3, hr4⟩ := head_mark run62 _ _ _ hr2 c2 c3
        refine ⟨r2, ?_, hr4⟩
        rw [hr1, hr3]; simp [gtS]
      · cases ha
    · cases ha
theorem addrS_34 {first : Bool} {s r : Tx} (h : skipS s = 34 :: r) : addrS first s = match quoS r with | none => none | some q => addrS false q := by
  rw [addrS]
  simp only [h, List.head?_cons, if_true, List.tail_cons]
  split <;> rename_i e <;> simp only [h, List.tail_cons] at e <;> rw [e]
theorem addrS_60 {first : Bool} {s r : Tx} (h : skipS s = 60 :: r) : addrS first s = gtS (bareS (runS r) (offS r)) := by
  rw [addrS]
  simp only [h, List.head?_cons, List.tail_cons]
  rw [if_neg (by decide), if_true]
theorem addrS_x {first : Bool} {s : Tx} (h1 : (skipS s).head? ≠ some 34) (h2 : (skipS s).head? ≠ some 60) : addrS first s = if first = true ∧ (offS (skipS s)).head? = some 64 then bareS (runS (skipS s)) (offS (skipS s)) else if runS (skipS s) = [] then none else addrS false (offS (skipS s)) := by
  rw [addrS, if_neg h1, if_neg h2]
  rfl
/-- the words ahead, and what stands in < and > -/
theorem addr_false (n : Nat) : ∀ (s : Tx) (ap : Bool), s.length ≤ n →
    (∀ a r, addrS false s = some (a, r) → ∃ pre, bitsS ap s = (bitsS false r).map (pre ++ ·) ∧ ∀ t, angB ((pre ++ t).dropWhile wordB) = some (a, t)) ∧
    (∀ l a t, bitsS ap s = some l → angB (l.dropWhile wordB) = some (a, t) → ∃ r, addrS false s = some (a, r)) := by
  induction n with
  | zero =>
    intro s ap hs
    have : s = [] := List.eq_nil_of_length_eq_zero (by omega)
    subst this
    refine ⟨fun a r h => ?_, fun l a t h h2 => ?_⟩
    · unfold addrS at h; simp [skipS, offS, runS] at h
    · rw [bits_nil] at h; injection h with h; subst h; simp [angB] at h2
  | succ n ih =>
    intro s ap hs
    obtain ⟨ap', h'⟩ := bits_skip' s ap
    have hk := skip_le s
    have hh := skip_head s
    rw [h']
    cases e : skipS s with
    | nil =>
      rw [addrS_x (by rw [e]; simp) (by rw [e]; simp), e]
      refine ⟨fun a r h => ?_, fun l a t h h2 => ?_⟩
      · simp [runS_nil, offS_nil] at h
      · rw [bits_nil] at h; injection h with h; subst h; simp [angB] at h2
    | cons c r =>
      have hb := hh c r e
      rw [e] at hk
      simp only [List.length_cons] at hk
      by_cases c1 : c = 34
      · subst c1
        rw [addrS_34 e]
        cases e4 : quoS r with
        | none =>
          dsimp only
          refine ⟨fun a r h => (by cases h), fun l a t h h2 => ?_⟩
          rw [bits_quoN e4] at h; cases h
        | some q =>
          dsimp only
          have hq := quo_lt _ _ e4
          obtain ⟨i1, i2⟩ := ih q false (by omega)
          rw [bits_quoS e4]
          refine ⟨fun a r h => ?_, fun l a t h h2 => ?_⟩
          · obtain ⟨pre, p1, p2⟩ := i1 a r h
            refine ⟨⟨[], false, true, ap'⟩ :: pre, ?_, fun t => ?_⟩
            · rw [p1]; cases bitsS false r <;> rfl
            · rw [List.cons_append, List.dropWhile_cons, if_pos (by rfl)]; exact p2 t
          · cases e5 : bitsS false q with
            | none => rw [e5] at h; cases h
            | some l' =>
              rw [e5] at h; injection h with h; subst h
              rw [List.dropWhile_cons, if_pos (by rfl)] at h2
              exact i2 l' a t e5 h2
      · by_cases c2 : c = 60
        · subst c2
          rw [addrS_60 e]
          refine ⟨fun a r h => ?_, fun l a t h h2 => ?_⟩
          · obtain ⟨pre, p1, p2⟩ := ang_bw (ap := ap') h
            refine ⟨pre, p1, fun t => ?_⟩
            rw [(p2 t).2]; exact (p2 t).1
          · have hne : l.dropWhile wordB = l := by
              rw [bits_one blk60 run60 (by decide)] at h
              cases e5 : bitsS false r with
              | none => rw [e5] at h; cases h
              | some l' => rw [e5] at h; injection h with h; subst h; rw [List.dropWhile_cons, if_neg (by simp [wordB])]
            rw [hne] at h2
            obtain ⟨r2, h3, _⟩ := ang_fw h h2
            exact ⟨r2, h3⟩
        · rw [addrS_x (by rw [e]; simpa using c1) (by rw [e]; simpa using c2), e]
          simp only [Bool.false_eq_true, false_and, if_false]
          cases e2 : runB c with
          | false =>
            rw [runS_no e2, if_pos rfl]
            refine ⟨fun a r h => (by cases h), fun l a t h h2 => ?_⟩
            rw [bits_one hb e2 c1] at h
            cases e5 : bitsS false r with
            | none => rw [e5] at h; cases h
            | some l' =>
              rw [e5] at h; injection h with h; subst h
              rw [List.dropWhile_cons, if_neg (by simp [wordB])] at h2
              simp [angB, c2] at h2
          | true =>
            have hrun : runS (c :: r) ≠ [] := by rw [runS_cons e2]; simp
            rw [if_neg hrun]
            have ho := off_lt _ hrun
            simp only [List.length_cons] at ho
            obtain ⟨i1, i2⟩ := ih (offS (c :: r)) false (by omega)
            rw [bits_run e2]
            refine ⟨fun a r' h => ?_, fun l a t h h2 => ?_⟩
            · obtain ⟨pre, p1, p2⟩ := i1 a r' h
              refine ⟨⟨runS (c :: r), true, false, ap'⟩ :: pre, ?_, fun t => ?_⟩
              · rw [p1]; cases bitsS false r' <;> rfl
              · rw [List.cons_append, List.dropWhile_cons, if_pos (by rfl)]; exact p2 t
            · cases e5 : bitsS false (offS (c :: r)) with
              | none => rw [e5] at h; cases h
              | some l' =>
                rw [e5] at h; injection h with h; subst h
                rw [List.dropWhile_cons, if_pos (by rfl)] at h2
                exact i2 l' a t e5 h2
theorem addrS_tf {s : Tx} (h : (skipS s).head? = some 34 ∨ (skipS s).head? = some 60 ∨ (offS (skipS s)).head? ≠ some 64) : addrS true s = addrS false s := by
  cases e : skipS s with
  | nil =>
    have h1 := addrS_x (first := true) (s := s) (by rw [e]; simp) (by rw [e]; simp)
    have h2 := addrS_x (first := false) (s := s) (by rw [e]; simp) (by rw [e]; simp)
    rw [h1, h2, e]; simp [offS_nil]
  | cons c r =>
    by_cases c1 : c = 34
    · subst c1; rw [addrS_34 e, addrS_34 e]
    · by_cases c2 : c = 60
      · subst c2; rw [addrS_60 e, addrS_60 e]
      · have h1 := addrS_x (first := true) (s := s) (by rw [e]; simpa using c1) (by rw [e]; simpa using c2)
        have h2 := addrS_x (first := false) (s := s) (by rw [e]; simpa using c1) (by rw [e]; simpa using c2)
        rw [h1, h2]
        rw [e] at h
        simp only [List.head?_cons, Option.some.injEq, c1, c2, false_or] at h
        rw [e, if_neg (fun hh : true = true ∧ _ => h hh.2), if_neg (fun hh : false = true ∧ _ => h hh.2)]
theorem addr_true (s : Tx) (ap : Bool) :
    (∀ a r, addrS true s = some (a, r) → ∃ pre, bitsS ap s = (bitsS false r).map (pre ++ ·) ∧ ∀ t, bitsS false r = some t → addrB (pre ++ t) = some (a, t)) ∧
    (∀ l a t, bitsS ap s = some l → addrB l = some (a, t) → ∃ r, addrS true s = some (a, r)) := by
  obtain ⟨f1, f2⟩ := addr_false s.length s ap (Nat.le_refl _)
  by_cases hc : (skipS s).head? = some 34 ∨ (skipS s).head? = some 60 ∨ (offS (skipS s)).head? ≠ some 64
  · rw [addrS_tf hc]
    have hnb : ∀ a r, bareS (runS (skipS s)) (offS (skipS s)) = some (a, r) → False := by
      intro a r hb
      obtain ⟨p, h1, _, _, _, h5, _⟩ := bare_inv hb
      rw [h1] at hc
      simp only [List.head?_cons, ne_eq, not_true_eq_false, or_false] at hc
      cases e : skipS s with
      | nil => rw [e] at h5; exact h5 rfl
      | cons c r =>
        rw [e] at hc h5
        simp only [List.head?_cons, Option.some.injEq] at hc
        rcases hc with rfl | rfl
        · exact h5 (runS_no run34)
        · exact h5 (runS_no run60)
    have hpl : ∀ l, bitsS ap s = some l → plainB l = none := by
      intro l hl
      cases e : plainB l with
      | none => rfl
      | some x => obtain ⟨a, t⟩ := x; obtain ⟨r, h1, _⟩ := plain_fw hl e; exact (hnb _ _ h1).elim
    refine ⟨fun a r h => ?_, fun l a t h h2 => ?_⟩
    · obtain ⟨pre, p1, p2⟩ := f1 a r h
      refine ⟨pre, p1, fun t ht => ?_⟩
      unfold addrB
      rw [hpl (pre ++ t) (by rw [p1, ht]; rfl)]
      exact p2 t
    · unfold addrB at h2
      rw [hpl l h] at h2
      exact f2 l a t h h2
  · simp only [not_or, ne_eq, Classical.not_not] at hc
    obtain ⟨c1, c2, c3⟩ := hc
    rw [addrS_x c1 c2, if_pos ⟨rfl, c3⟩]
    refine ⟨fun a r h => ?_, fun l a t h h2 => ?_⟩
    · obtain ⟨ap', p1, p2⟩ := plain_bw (ap := ap) h
      refine ⟨[⟨a.1, true, false, ap'⟩, ⟨[64], false, false, false⟩, ⟨a.2, true, false, false⟩], p1, fun t _ => ?_⟩
      have := p2 t
      unfold addrB
      simp only [List.cons_append, List.nil_append]
      rw [this]
    · unfold addrB at h2
      split at h2
      · rename_i x hp
        obtain ⟨a', t'⟩ := x
        obtain ⟨r, h3, _⟩ := plain_fw h hp
        injection h2 with h2; injection h2 with h4 h5
        exact ⟨r, by rw [← h4]; exact h3⟩
      · exfalso
        obtain ⟨ap', h'⟩ := bits_skip' s ap
        rw [h'] at h
        by_cases hr : runS (skipS s) = []
        · have : offS (skipS s) = skipS s := by
            have := run_off (skipS s); rw [hr] at this; exact this
          rw [this] at c3
          cases e : skipS s with
          | nil => rw [e] at c3; simp at c3
          | cons c r =>
            rw [e] at c3 h
            simp only [List.head?_cons, Option.some.injEq] at c3
            subst c3
            rw [bits_one blk64 run64 (by decide)] at h
            cases e5 : bitsS false r with
            | none => rw [e5] at h; cases h
            | some l' =>
              rw [e5] at h; injection h with h; subst h
              rw [List.dropWhile_cons, if_neg (by simp [wordB])] at h2
              simp [angB] at h2
        · rw [bits_runs hr] at h
          cases e : offS (skipS s) with
          | nil => rw [e] at c3; simp at c3
          | cons c r =>
            rw [e] at c3 h
            simp only [List.head?_cons, Option.some.injEq] at c3
            subst c3
            rw [bits_one blk64 run64 (by decide)] at h
            cases e5 : bitsS false r with
            | none => rw [e5] at h; cases h
            | some l' =>
              rw [e5] at h
              simp only [Option.map_some, Option.some.injEq] at h
              subst h
              rw [List.dropWhile_cons, if_pos (by rfl), List.dropWhile_cons, if_neg (by simp [wordB])] at h2
              simp [angB] at h2
theorem listB_none {l : List Bt} (h : addrB l = none) : listB l = none := by
  unfold listB; split <;> rename_i e <;> rw [h] at e <;> first | rfl | cases e
theorem listB_one {l : List Bt} {a : Ad} (h : addrB l = some (a, [])) : listB l = some [a] := by
  unfold listB; split <;> rename_i e <;> rw [h] at e
  · cases e
  · injection e with e; injection e with e1 e2; rw [e1]
  · injection e with e; injection e with e1 e2; cases e2
theorem listB_more {l t : List Bt} {x : Bt} {a : Ad} (h : addrB l = some (a, x :: t)) : listB l = if x.text = [44] then (listB t).map (a :: ·) else none := by
  rw [listB]; split <;> rename_i e <;> rw [h] at e
  · cases e
  · injection e with e; injection e with e1 e2; cases e2
  · injection e with e; injection e with e1 e2; injection e2 with e2 e3; rw [e1, e2, e3]
theorem listS_none {s : Tx} (h : addrS true s = none) : listS s = none := by
  unfold listS; split <;> rename_i e <;> rw [h] at e <;> first | rfl | cases e
theorem listS_some {s r : Tx} {a : Ad} (h : addrS true s = some (a, r)) : listS s = match skipS r with | [] => some [a] | c :: q => if c = 44 then (listS q).map (a :: ·) else none := by
  rw [listS]; split <;> rename_i e <;> rw [h] at e
  · cases e
  · injection e with e; injection e with e1 e2
    subst e1; subst e2
    split <;> rename_i e3 <;> rw [e3]
/-- both ways of reading a list -/
theorem list_bits (n : Nat) : ∀ (s : Tx) (ap : Bool), s.length ≤ n → (bitsS ap s).bind listB = listS s := by
  induction n with
  | zero =>
    intro s ap hs
    have : s = [] := List.eq_nil_of_length_eq_zero (by omega)
    subst this
    rw [bits_nil, listS_none (by unfold addrS; simp [skipS, offS, runS])]
    exact listB_none (by simp [addrB, plainB, angB])
  | succ n ih =>
    intro s ap hs
    obtain ⟨f1, f2⟩ := addr_true s ap
    cases e : addrS true s with
    | none =>
      rw [listS_none e]
      cases e1 : bitsS ap s with
      | none => rfl
      | some l =>
        refine listB_none ?_
        cases e2 : addrB l with
        | none => rfl
        | some x => obtain ⟨a, t⟩ := x; obtain ⟨r, h⟩ := f2 l a t e1 e2; rw [e] at h; cases h
    | some x =>
      obtain ⟨a, r⟩ := x
      have hlt := addr_lt s.length true s a r (Nat.le_refl _) e
      rw [listS_some e]
      obtain ⟨pre, p1, p2⟩ := f1 a r e
      rw [p1]
      obtain ⟨ap', h'⟩ := bits_skip' r false
      have hh := skip_head r
      have hk := skip_le r
      generalize skipS r = q at h' hh hk
      cases q with
      | nil =>
        rw [bits_nil] at h'
        rw [h']
        exact listB_one (p2 [] h')
      | cons c q =>
        have hb := hh c q rfl
        simp only [List.length_cons] at hk
        dsimp only
        by_cases c1 : c = 44
        · subst c1
          rw [if_pos rfl]
          rw [bits_one blk44 run44 (by decide)] at h'
          cases e5 : bitsS false q with
          | none =>
            rw [h', e5]
            have := ih q false (by omega)
            rw [e5] at this
            rw [← this]; rfl
          | some t =>
            rw [e5] at h'
            have h2 := p2 _ h'
            rw [h']
            show listB _ = _
            rw [listB_more h2, if_pos rfl]
            have := ih q false (by omega)
            rw [e5] at this
            rw [← this]; rfl
        · rw [if_neg c1]
          cases e5 : bitsS false r with
          | none => rfl
          | some l =>
            rw [h'] at e5
            have hx : ∃ x t, l = x :: t ∧ x.text ≠ [44] := by
              cases e2 : runB c with
              | true =>
                rw [bits_run e2] at e5
                cases e6 : bitsS false (offS (c :: q)) with
                | none => rw [e6] at e5; cases e5
                | some l' =>
                  rw [e6] at e5; injection e5 with e5
                  exact ⟨_, _, e5.symm, by rw [runS_cons e2]; simp; intro h; exact absurd h c1⟩
              | false =>
                by_cases c3 : c = 34
                · subst c3
                  cases e4 : quoS q with
                  | none => rw [bits_quoN e4] at e5; cases e5
                  | some q' =>
                    rw [bits_quoS e4] at e5
                    cases e6 : bitsS false q' with
                    | none => rw [e6] at e5; cases e5
                    | some l' => rw [e6] at e5; injection e5 with e5; exact ⟨_, _, e5.symm, by simp⟩
                · rw [bits_one hb e2 c3] at e5
                  cases e6 : bitsS false q with
                  | none => rw [e6] at e5; cases e5
                  | some l' => rw [e6] at e5; injection e5 with e5; exact ⟨_, _, e5.symm, by simpa using c1⟩
            obtain ⟨x, t, rfl, hx⟩ := hx
            have h2 := p2 _ (h'.trans e5)
            show listB _ = _
            rw [listB_more h2, if_neg hx]
/-- what a list reads as, with its fault -/
def listR (s : Tx) : List Ad × Int := if 2000 < s.length then ([], 1) else match listS s with | none => ([], 3) | some l => if 20 < l.length then ([], 5) else (l, 0)
end Go.Proofs.YthhfbolhlbgbgaaDoor

namespace Go.Proofs.YthhfbolhlbgbgaaDoor
@[go_sem] theorem ty_0 : (Tryd.prog.underlying 0).isSome = true := by kernel_rfl
@[go_sem] theorem ty_1 : tyI Tryd.prog 0 = some (false, 1) := by kernel_rfl
@[go_sem] theorem ty_2 : isIf Tryd.prog 0 = false := by kernel_rfl
@[go_sem] theorem ty_3 : (Tryd.prog.underlying 1).isSome = true := by kernel_rfl
@[go_sem] theorem ty_4 : tyI Tryd.prog 1 = some (false, 1) := by kernel_rfl
@[go_sem] theorem ty_5 : zI Tryd.prog 1 = some [.nilf] := by kernel_rfl
@[go_sem] theorem ty_6 : isIf Tryd.prog 1 = false := by kernel_rfl
@[go_sem] theorem ty_7 : (Tryd.prog.underlying 2).isSome = true := by kernel_rfl
@[go_sem] theorem ty_8 : tyI Tryd.prog 2 = some (false, 1) := by kernel_rfl
@[go_sem] theorem ty_9 : intI Tryd.prog 2 = some .i64 := by kernel_rfl
@[go_sem] theorem ty_10 : zI Tryd.prog 2 = some [.d (.int .i64 0)] := by kernel_rfl
@[go_sem] theorem ty_11 : isIf Tryd.prog 2 = false := by kernel_rfl
@[go_sem] theorem ty_12 : (Tryd.prog.underlying 3).isSome = true := by kernel_rfl
@[go_sem] theorem ty_13 : tyI Tryd.prog 3 = some (false, 1) := by kernel_rfl
@[go_sem] theorem ty_14 : intI Tryd.prog 3 = some .i64 := by kernel_rfl
@[go_sem] theorem ty_15 : zI Tryd.prog 3 = some [.d (.int .i64 0)] := by kernel_rfl
@[go_sem] theorem ty_16 : isIf Tryd.prog 3 = false := by kernel_rfl
@[go_sem] theorem ty_17 : (Tryd.prog.underlying 4).isSome = true := by kernel_rfl
@[go_sem] theorem ty_18 : tyI Tryd.prog 4 = some (false, 1) := by kernel_rfl
@[go_sem] theorem ty_19 : zI Tryd.prog 4 = some [.d (.bool false)] := by kernel_rfl
@[go_sem] theorem ty_20 : isB Tryd.prog 4 = true := by kernel_rfl
@[go_sem] theorem ty_21 : isIf Tryd.prog 4 = false := by kernel_rfl
@[go_sem] theorem ty_22 : (Tryd.prog.underlying 5).isSome = true := by kernel_rfl
@[go_sem] theorem ty_23 : tyI Tryd.prog 5 = some (false, 1) := by kernel_rfl
@[go_sem] theorem ty_24 : intI Tryd.prog 5 = some .u8 := by kernel_rfl
@[go_sem] theorem ty_25 : zI Tryd.prog 5 = some [.d (.int .u8 0)] := by kernel_rfl
@[go_sem] theorem ty_26 : isIf Tryd.prog 5 = false := by kernel_rfl
@[go_sem] theorem ty_27 : (Tryd.prog.underlying 6).isSome = true := by kernel_rfl
@[go_sem] theorem ty_28 : tyI Tryd.prog 6 = some (false, 1) := by kernel_rfl
@[go_sem] theorem ty_29 : intI Tryd.prog 6 = some .u8 := by kernel_rfl
@[go_sem] theorem ty_30 : zI Tryd.prog 6 = some [.d (.int .u8 0)] := by kernel_rfl
@[go_sem] theorem ty_31 : isIf Tryd.prog 6 = false := by kernel_rfl
@[go_sem] theorem ty_32 : (Tryd.prog.underlying 7).isSome = true := by kernel_rfl
@[go_sem] theorem ty_33 : tyI Tryd.prog 7 = some (true, 4) := by kernel_rfl
@[go_sem] theorem ty_34 : fdI Tryd.prog 7 0 = some (0, 1, false) := by kernel_rfl
@[go_sem] theorem ty_35 : fdI Tryd.prog 7 1 = some (1, 1, false) := by kernel_rfl
@[go_sem] theorem ty_36 : fdI Tryd.prog 7 2 = some (2, 1, false) := by kernel_rfl
@[go_sem] theorem ty_37 : fdI Tryd.prog 7 3 = some (3, 1, false) := by kernel_rfl
@[go_sem] theorem ty_38 : bdI Tryd.prog 7 = some ([.d (.int .i64 0), .d (.int .i64 0), .d (.bool false), .d (.int .u8 0)], [(0, 1), (1, 1), (2, 1), (3, 1)]) := by kernel_rfl
@[go_sem] theorem ty_39 : zI Tryd.prog 7 = some [.d (.int .i64 0), .d (.int .i64 0), .d (.bool false), .d (.int .u8 0)] := by kernel_rfl
@[go_sem] theorem ty_40 : eqI Tryd.prog 7 = some [1, 1, 2, 1] := by kernel_rfl
@[go_sem] theorem ty_41 : isIf Tryd.prog 7 = false := by kernel_rfl
@[go_sem] theorem ty_42 : (Tryd.prog.underlying 8).isSome = true := by kernel_rfl
@[go_sem] theorem ty_43 : tyI Tryd.prog 8 = some (true, 4) := by kernel_rfl
@[go_sem] theorem ty_44 : fdI Tryd.prog 8 0 = some (0, 1, false) := by kernel_rfl
@[go_sem] theorem ty_45 : fdI Tryd.prog 8 1 = some (1, 1, false) := by kernel_rfl
@[go_sem] theorem ty_46 : fdI Tryd.prog 8 2 = some (2, 1, false) := by kernel_rfl
@[go_sem] theorem ty_47 : fdI Tryd.prog 8 3 = some (3, 1, false) := by kernel_rfl
@[go_sem] theorem ty_48 : bdI Tryd.prog 8 = some ([.d (.int .i64 0), .d (.int .i64 0), .d (.bool false), .d (.int .u8 0)], [(0, 1), (1, 1), (2, 1), (3, 1)]) := by kernel_rfl
@[go_sem] theorem ty_49 : zI Tryd.prog 8 = some [.d (.int .i64 0), .d (.int .i64 0), .d (.bool false), .d (.int .u8 0)] := by kernel_rfl
@[go_sem] theorem ty_50 : eqI Tryd.prog 8 = some [1, 1, 2, 1] := by kernel_rfl
@[go_sem] theorem ty_51 : isIf Tryd.prog 8 = false := by kernel_rfl
@[go_sem] theorem ty_52 : (Tryd.prog.underlying 9).isSome = true := by kernel_rfl
@[go_sem] theorem ty_53 : tyI Tryd.prog 9 = some (false, 1) := by kernel_rfl
@[go_sem] theorem ty_54 : zI Tryd.prog 9 = some [.d (.str [])] := by kernel_rfl
@[go_sem] theorem ty_55 : isStr Tryd.prog 9 = true := by kernel_rfl
@[go_sem] theorem ty_56 : isIf Tryd.prog 9 = false := by kernel_rfl
@[go_sem] theorem ty_57 : (Tryd.prog.underlying 10).isSome = true := by kernel_rfl
@[go_sem] theorem ty_58 : tyI Tryd.prog 10 = some (false, 1) := by kernel_rfl
@[go_sem] theorem ty_59 : zI Tryd.prog 10 = some [.d (.str [])] := by kernel_rfl
@[go_sem] theorem ty_60 : isStr Tryd.prog 10 = true := by kernel_rfl
@[go_sem] theorem ty_61 : isIf Tryd.prog 10 = false := by kernel_rfl
@[go_sem] theorem ty_62 : (Tryd.prog.underlying 11).isSome = true := by kernel_rfl
@[go_sem] theorem ty_63 : tyI Tryd.prog 11 = some (false, 1) := by kernel_rfl
@[go_sem] theorem ty_64 : zI Tryd.prog 11 = some [.d (.str [])] := by kernel_rfl
@[go_sem] theorem ty_65 : isStr Tryd.prog 11 = true := by kernel_rfl
@[go_sem] theorem ty_66 : isIf Tryd.prog 11 = false := by kernel_rfl
@[go_sem] theorem ty_67 : (Tryd.prog.underlying 12).isSome = true := by kernel_rfl
@[go_sem] theorem ty_68 : tyI Tryd.prog 12 = some (false, 1) := by kernel_rfl
@[go_sem] theorem ty_69 : intI Tryd.prog 12 = some .u64 := by kernel_rfl
@[go_sem] theorem ty_70 : zI Tryd.prog 12 = some [.d (.int .u64 0)] := by kernel_rfl
@[go_sem] theorem ty_71 : isIf Tryd.prog 12 = false := by kernel_rfl
@[go_sem] theorem ty_72 : (Tryd.prog.underlying 13).isSome = true := by kernel_rfl
@[go_sem] theorem ty_73 : tyI Tryd.prog 13 = some (true, 2) := by kernel_rfl
@[go_sem] theorem ty_74 : fdI Tryd.prog 13 0 = some (0, 1, false) := by kernel_rfl
@[go_sem] theorem ty_75 : fdI Tryd.prog 13 1 = some (1, 1, false) := by kernel_rfl
@[go_sem] theorem ty_76 : bdI Tryd.prog 13 = some ([.d (.str []), .d (.int .u64 0)], [(0, 1), (1, 1)]) := by kernel_rfl
@[go_sem] theorem ty_77 : zI Tryd.prog 13 = some [.d (.str []), .d (.int .u64 0)] := by kernel_rfl
@[go_sem] theorem ty_78 : isIf Tryd.prog 13 = false := by kernel_rfl
@[go_sem] theorem ty_79 : (Tryd.prog.underlying 14).isSome = true := by kernel_rfl
@[go_sem] theorem ty_80 : tyI Tryd.prog 14 = some (true, 2) := by kernel_rfl
@[go_sem] theorem ty_81 : fdI Tryd.prog 14 0 = some (0, 1, false) := by kernel_rfl
@[go_sem] theorem ty_82 : fdI Tryd.prog 14 1 = some (1, 1, false) := by kernel_rfl
@[go_sem] theorem ty_83 : bdI Tryd.prog 14 = some ([.d (.str []), .d (.int .u64 0)], [(0, 1), (1, 1)]) := by kernel_rfl
@[go_sem] theorem ty_84 : zI Tryd.prog 14 = some [.d (.str []), .d (.int .u64 0)] := by kernel_rfl
@[go_sem] theorem ty_85 : isIf Tryd.prog 14 = false := by kernel_rfl
@[go_sem] theorem ty_86 : (Tryd.prog.underlying 15).isSome = true := by kernel_rfl
@[go_sem] theorem ty_87 : tyI Tryd.prog 15 = some (false, 1) := by kernel_rfl
@[go_sem] theorem ty_88 : zI Tryd.prog 15 = some [.nilp] := by kernel_rfl
@[go_sem] theorem ty_89 : isIf Tryd.prog 15 = false := by kernel_rfl
@[go_sem] theorem ty_90 : (Tryd.prog.underlying 16).isSome = true := by kernel_rfl
@[go_sem] theorem ty_91 : tyI Tryd.prog 16 = some (false, 1) := by kernel_rfl
@[go_sem] theorem ty_92 : zI Tryd.prog 16 = some [.nilp] := by kernel_rfl
@[go_sem] theorem ty_93 : isIf Tryd.prog 16 = false := by kernel_rfl
@[go_sem] theorem ty_94 : (Tryd.prog.underlying 17).isSome = true := by kernel_rfl
@[go_sem] theorem ty_95 : tyI Tryd.prog 17 = some (false, 1) := by kernel_rfl
@[go_sem] theorem ty_96 : zI Tryd.prog 17 = some [.nilp] := by kernel_rfl
@[go_sem] theorem ty_97 : isIf Tryd.prog 17 = false := by kernel_rfl
@[go_sem] theorem ty_98 : (Tryd.prog.underlying 18).isSome = true := by kernel_rfl
@[go_sem] theorem ty_99 : tyI Tryd.prog 18 = some (true, 1) := by kernel_rfl
@[go_sem] theorem ty_100 : fdI Tryd.prog 18 0 = some (0, 1, false) := by kernel_rfl
@[go_sem] theorem ty_101 : bdI Tryd.prog 18 = some ([.nilp], [(0, 1)]) := by kernel_rfl
@[go_sem] theorem ty_102 : zI Tryd.prog 18 = some [.nilp] := by kernel_rfl
@[go_sem] theorem ty_103 : isIf Tryd.prog 18 = false := by kernel_rfl
@[go_sem] theorem ty_104 : (Tryd.prog.underlying 19).isSome = true := by kernel_rfl
@[go_sem] theorem ty_105 : tyI Tryd.prog 19 = some (true, 1) := by kernel_rfl
@[go_sem] theorem ty_106 : fdI Tryd.prog 19 0 = some (0, 1, false) := by kernel_rfl
@[go_sem] theorem ty_107 : bdI Tryd.prog 19 = some ([.nilp], [(0, 1)]) := by kernel_rfl
@[go_sem] theorem ty_108 : zI Tryd.prog 19 = some [.nilp] := by kernel_rfl
@[go_sem] theorem ty_109 : isIf Tryd.prog 19 = false := by kernel_rfl
@[go_sem] theorem ty_110 : (Tryd.prog.underlying 20).isSome = true := by kernel_rfl
@[go_sem] theorem ty_111 : tyI Tryd.prog 20 = some (false, 1) := by kernel_rfl
@[go_sem] theorem ty_112 : zI Tryd.prog 20 = some [.nili] := by kernel_rfl
@[go_sem] theorem ty_113 : isE Tryd.prog 20 = true := by kernel_rfl
@[go_sem] theorem ty_114 : isIf Tryd.prog 20 = true := by kernel_rfl
@[go_sem] theorem ty_115 : (Tryd.prog.underlying 21).isSome = true := by kernel_rfl
@[go_sem] theorem ty_116 : tyI Tryd.prog 21 = some (false, 1) := by kernel_rfl
@[go_sem] theorem ty_117 : intI Tryd.prog 21 = some .i32 := by kernel_rfl
@[go_sem] theorem ty_118 : zI Tryd.prog 21 = some [.d (.int .i32 0)] := by kernel_rfl
@[go_sem] theorem ty_119 : isIf Tryd.prog 21 = false := by kernel_rfl
@[go_sem] theorem ty_120 : (Tryd.prog.underlying 22).isSome = true := by kernel_rfl
@[go_sem] theorem ty_121 : tyI Tryd.prog 22 = some (false, 1) := by kernel_rfl
@[go_sem] theorem ty_122 : slI Tryd.prog 22 = some (92, 3, 48) := by kernel_rfl
@[go_sem] theorem ty_123 : zI Tryd.prog 22 = some [.nils] := by kernel_rfl
@[go_sem] theorem ty_124 : isIf Tryd.prog 22 = false := by kernel_rfl
@[go_sem] theorem ty_125 : isBytes Tryd.prog 22 = false := by kernel_rfl
@[go_sem] theorem ty_126 : isSl Tryd.prog 22 = true := by kernel_rfl
@[go_sem] theorem ty_127 : (Tryd.prog.underlying 23).isSome = true := by kernel_rfl
@[go_sem] theorem ty_128 : tyI Tryd.prog 23 = some (false, 1) := by kernel_rfl
@[go_sem] theorem ty_129 : slI Tryd.prog 23 = some (56, 6, 72) := by kernel_rfl
@[go_sem] theorem ty_130 : zI Tryd.prog 23 = some [.nils] := by kernel_rfl
@[go_sem] theorem ty_131 : isIf Tryd.prog 23 = false := by kernel_rfl
@[go_sem] theorem ty_132 : isBytes Tryd.prog 23 = false := by kernel_rfl
@[go_sem] theorem ty_133 : isSl Tryd.prog 23 = true := by kernel_rfl
@[go_sem] theorem ty_134 : (Tryd.prog.underlying 24).isSome = true := by kernel_rfl
@[go_sem] theorem ty_135 : tyI Tryd.prog 24 = some (true, 2) := by kernel_rfl
@[go_sem] theorem ty_136 : fdI Tryd.prog 24 0 = some (0, 1, false) := by kernel_rfl
@[go_sem] theorem ty_137 : fdI Tryd.prog 24 1 = some (1, 1, false) := by kernel_rfl
@[go_sem] theorem ty_138 : bdI Tryd.prog 24 = some ([.nils, .nils], [(0, 1), (1, 1)]) := by kernel_rfl
@[go_sem] theorem ty_139 : zI Tryd.prog 24 = some [.nils, .nils] := by kernel_rfl
@[go_sem] theorem ty_140 : isIf Tryd.prog 24 = false := by kernel_rfl
@[go_sem] theorem ty_141 : (Tryd.prog.underlying 25).isSome = true := by kernel_rfl
@[go_sem] theorem ty_142 : tyI Tryd.prog 25 = some (true, 2) := by kernel_rfl
@[go_sem] theorem ty_143 : fdI Tryd.prog 25 0 = some (0, 1, false) := by kernel_rfl
@[go_sem] theorem ty_144 : fdI Tryd.prog 25 1 = some (1, 1, false) := by kernel_rfl
@[go_sem] theorem ty_145 : bdI Tryd.prog 25 = some ([.nils, .nils], [(0, 1), (1, 1)]) := by kernel_rfl
@[go_sem] theorem ty_146 : zI Tryd.prog 25 = some [.nils, .nils] := by kernel_rfl
@[go_sem] theorem ty_147 : isIf Tryd.prog 25 = false := by kernel_rfl
@[go_sem] theorem ty_148 : (Tryd.prog.underlying 26).isSome = true := by kernel_rfl
@[go_sem] theorem ty_149 : tyI Tryd.prog 26 = some (false, 1) := by kernel_rfl
@[go_sem] theorem ty_150 : intI Tryd.prog 26 = some .i64 := by kernel_rfl
@[go_sem] theorem ty_151 : zI Tryd.prog 26 = some [.d (.int .i64 0)] := by kernel_rfl
@[go_sem] theorem ty_152 : isIf Tryd.prog 26 = false := by kernel_rfl
@[go_sem] theorem ty_153 : (Tryd.prog.underlying 27).isSome = true := by kernel_rfl
@[go_sem] theorem ty_154 : tyI Tryd.prog 27 = some (false, 1) := by kernel_rfl
@[go_sem] theorem ty_155 : isIf Tryd.prog 27 = false := by kernel_rfl
@[go_sem] theorem ty_156 : (Tryd.prog.underlying 28).isSome = true := by kernel_rfl
@[go_sem] theorem ty_157 : tyI Tryd.prog 28 = some (false, 1) := by kernel_rfl
@[go_sem] theorem ty_158 : zI Tryd.prog 28 = some [.nilf] := by kernel_rfl
@[go_sem] theorem ty_159 : isIf Tryd.prog 28 = false := by kernel_rfl
@[go_sem] theorem ty_160 : (Tryd.prog.underlying 29).isSome = true := by kernel_rfl
@[go_sem] theorem ty_161 : tyI Tryd.prog 29 = some (false, 1) := by kernel_rfl
@[go_sem] theorem ty_162 : zI Tryd.prog 29 = some [.nilf] := by kernel_rfl
@[go_sem] theorem ty_163 : isIf Tryd.prog 29 = false := by kernel_rfl
@[go_sem] theorem ty_164 : (Tryd.prog.underlying 30).isSome = true := by kernel_rfl
@[go_sem] theorem ty_165 : tyI Tryd.prog 30 = some (false, 1) := by kernel_rfl
@[go_sem] theorem ty_166 : zI Tryd.prog 30 = some [.nilf] := by kernel_rfl
@[go_sem] theorem ty_167 : isIf Tryd.prog 30 = false := by kernel_rfl
@[go_sem] theorem ty_168 : (Tryd.prog.underlying 31).isSome = true := by kernel_rfl
@[go_sem] theorem ty_169 : tyI Tryd.prog 31 = some (false, 1) := by kernel_rfl
@[go_sem] theorem ty_170 : zI Tryd.prog 31 = some [.nilf] := by kernel_rfl
@[go_sem] theorem ty_171 : isIf Tryd.prog 31 = false := by kernel_rfl
@[go_sem] theorem ty_172 : (Tryd.prog.underlying 32).isSome = true := by kernel_rfl
@[go_sem] theorem ty_173 : tyI Tryd.prog 32 = some (false, 1) := by kernel_rfl
@[go_sem] theorem ty_174 : zI Tryd.prog 32 = some [.nilf] := by kernel_rfl
@[go_sem] theorem ty_175 : isIf Tryd.prog 32 = false := by kernel_rfl
@[go_sem] theorem ty_176 : (Tryd.prog.underlying 33).isSome = true := by kernel_rfl
@[go_sem] theorem ty_177 : tyI Tryd.prog 33 = some (false, 1) := by kernel_rfl
@[go_sem] theorem ty_178 : slI Tryd.prog 33 = some (5, 1, 1) := by kernel_rfl
@[go_sem] theorem ty_179 : zI Tryd.prog 33 = some [.nils] := by kernel_rfl
@[go_sem] theorem ty_180 : isIf Tryd.prog 33 = false := by kernel_rfl
@[go_sem] theorem ty_181 : isBytes Tryd.prog 33 = true := by kernel_rfl
@[go_sem] theorem ty_182 : isSl Tryd.prog 33 = true := by kernel_rfl
@[go_sem] theorem ty_183 : (Tryd.prog.underlying 34).isSome = true := by kernel_rfl
@[go_sem] theorem ty_184 : tyI Tryd.prog 34 = some (true, 2) := by kernel_rfl
@[go_sem] theorem ty_185 : fdI Tryd.prog 34 0 = some (0, 1, false) := by kernel_rfl
@[go_sem] theorem ty_186 : fdI Tryd.prog 34 1 = some (1, 1, false) := by kernel_rfl
@[go_sem] theorem ty_187 : bdI Tryd.prog 34 = some ([.nils, .d (.int .i64 0)], [(0, 1), (1, 1)]) := by kernel_rfl
@[go_sem] theorem ty_188 : zI Tryd.prog 34 = some [.nils, .d (.int .i64 0)] := by kernel_rfl
@[go_sem] theorem ty_189 : isIf Tryd.prog 34 = false := by kernel_rfl
@[go_sem] theorem ty_190 : (Tryd.prog.underlying 35).isSome = true := by kernel_rfl
@[go_sem] theorem ty_191 : tyI Tryd.prog 35 = some (true, 2) := by kernel_rfl
@[go_sem] theorem ty_192 : fdI Tryd.prog 35 0 = some (0, 1, false) := by kernel_rfl
@[go_sem] theorem ty_193 : fdI Tryd.prog 35 1 = some (1, 1, false) := by kernel_rfl
@[go_sem] theorem ty_194 : bdI Tryd.prog 35 = some ([.nils, .d (.int .i64 0)], [(0, 1), (1, 1)]) := by kernel_rfl
@[go_sem] theorem ty_195 : zI Tryd.prog 35 = some [.nils, .d (.int .i64 0)] := by kernel_rfl
@[go_sem] theorem ty_196 : isIf Tryd.prog 35 = false := by kernel_rfl
@[go_sem] theorem ty_197 : (Tryd.prog.underlying 36).isSome = true := by kernel_rfl
@[go_sem] theorem ty_198 : tyI Tryd.prog 36 = some (true, 2) := by kernel_rfl
@[go_sem] theorem ty_199 : fdI Tryd.prog 36 0 = some (0, 1, false) := by kernel_rfl
@[go_sem] theorem ty_200 : fdI Tryd.prog 36 1 = some (1, 1, false) := by kernel_rfl
@[go_sem] theorem ty_201 : bdI Tryd.prog 36 = some ([.d (.int .i64 0), .nils], [(0, 1), (1, 1)]) := by kernel_rfl
@[go_sem] theorem ty_202 : zI Tryd.prog 36 = some [.d (.int .i64 0), .nils] := by kernel_rfl
@[go_sem] theorem ty_203 : isIf Tryd.prog 36 = false := by kernel_rfl
@[go_sem] theorem ty_204 : (Tryd.prog.underlying 37).isSome = true := by kernel_rfl
@[go_sem] theorem ty_205 : tyI Tryd.prog 37 = some (true, 2) := by kernel_rfl
@[go_sem] theorem ty_206 : fdI Tryd.prog 37 0 = some (0, 1, false) := by kernel_rfl
@[go_sem] theorem ty_207 : fdI Tryd.prog 37 1 = some (1, 1, false) := by kernel_rfl
@[go_sem] theorem ty_208 : bdI Tryd.prog 37 = some ([.d (.int .i64 0), .nils], [(0, 1), (1, 1)]) := by kernel_rfl
@[go_sem] theorem ty_209 : zI Tryd.prog 37 = some [.d (.int .i64 0), .nils] := by kernel_rfl
@[go_sem] theorem ty_210 : isIf Tryd.prog 37 = false := by kernel_rfl
@[go_sem] theorem ty_211 : (Tryd.prog.underlying 38).isSome = true := by kernel_rfl
@[go_sem] theorem ty_212 : tyI Tryd.prog 38 = some (false, 1) := by kernel_rfl
@[go_sem] theorem ty_213 : zI Tryd.prog 38 = some [.nilf] := by kernel_rfl
@[go_sem] theorem ty_214 : isIf Tryd.prog 38 = false := by kernel_rfl
@[go_sem] theorem ty_215 : (Tryd.prog.underlying 39).isSome = true := by kernel_rfl
@[go_sem] theorem ty_216 : tyI Tryd.prog 39 = some (false, 1) := by kernel_rfl
@[go_sem] theorem ty_217 : isIf Tryd.prog 39 = false := by kernel_rfl
@[go_sem] theorem ty_218 : (Tryd.prog.underlying 40).isSome = true := by kernel_rfl
@[go_sem] theorem ty_219 : tyI Tryd.prog 40 = some (false, 1) := by kernel_rfl
@[go_sem] theorem ty_220 : zI Tryd.prog 40 = some [.nilf] := by kernel_rfl
@[go_sem] theorem ty_221 : isIf Tryd.prog 40 = false := by kernel_rfl
@[go_sem] theorem ty_222 : (Tryd.prog.underlying 41).isSome = true := by kernel_rfl
@[go_sem] theorem ty_223 : tyI Tryd.prog 41 = some (false, 1) := by kernel_rfl
@[go_sem] theorem ty_224 : zI Tryd.prog 41 = some [.nilf] := by kernel_rfl
@[go_sem] theorem ty_225 : isIf Tryd.prog 41 = false := by kernel_rfl
@[go_sem] theorem ty_226 : (Tryd.prog.underlying 42).isSome = true := by kernel_rfl
@[go_sem] theorem ty_227 : tyI Tryd.prog 42 = some (false, 1) := by kernel_rfl
@[go_sem] theorem ty_228 : zI Tryd.prog 42 = some [.nilf] := by kernel_rfl
@[go_sem] theorem ty_229 : isIf Tryd.prog 42 = false := by kernel_rfl
@[go_sem] theorem ty_230 : (Tryd.prog.underlying 43).isSome = true := by kernel_rfl
@[go_sem] theorem ty_231 : tyI Tryd.prog 43 = some (false, 1) := by kernel_rfl
@[go_sem] theorem ty_232 : zI Tryd.prog 43 = some [.nilf] := by kernel_rfl
@[go_sem] theorem ty_233 : isIf Tryd.prog 43 = false := by kernel_rfl
@[go_sem] theorem ty_234 : (Tryd.prog.underlying 44).isSome = true := by kernel_rfl
@[go_sem] theorem ty_235 : tyI Tryd.prog 44 = some (false, 1) := by kernel_rfl
@[go_sem] theorem ty_236 : slI Tryd.prog 44 = some (37, 2, 32) := by kernel_rfl
@[go_sem] theorem ty_237 : zI Tryd.prog 44 = some [.nils] := by kernel_rfl
@[go_sem] theorem ty_238 : isIf Tryd.prog 44 = false := by kernel_rfl
@[go_sem] theorem ty_239 : isBytes Tryd.prog 44 = false := by kernel_rfl
@[go_sem] theorem ty_240 : isSl Tryd.prog 44 = true := by kernel_rfl
@[go_sem] theorem ty_241 : (Tryd.prog.underlying 45).isSome = true := by kernel_rfl
@[go_sem] theorem ty_242 : tyI Tryd.prog 45 = some (false, 1) := by kernel_rfl
@[go_sem] theorem ty_243 : isIf Tryd.prog 45 = false := by kernel_rfl
@[go_sem] theorem ty_244 : (Tryd.prog.underlying 46).isSome = true := by kernel_rfl
@[go_sem] theorem ty_245 : tyI Tryd.prog 46 = some (false, 1) := by kernel_rfl
@[go_sem] theorem ty_246 : zI Tryd.prog 46 = some [.nilf] := by kernel_rfl
@[go_sem] theorem ty_247 : isIf Tryd.prog 46 = false := by kernel_rfl
@[go_sem] theorem ty_248 : (Tryd.prog.underlying 47).isSome = true := by kernel_rfl
@[go_sem] theorem ty_249 : tyI Tryd.prog 47 = some (false, 1) := by kernel_rfl
@[go_sem] theorem ty_250 : zI Tryd.prog 47 = some [.nilf] := by kernel_rfl
@[go_sem] theorem ty_251 : isIf Tryd.prog 47 = false := by kernel_rfl
@[go_sem] theorem ty_252 : (Tryd.prog.underlying 48).isSome = true := by kernel_rfl
@[go_sem] theorem ty_253 : tyI Tryd.prog 48 = some (false, 1) := by kernel_rfl
@[go_sem] theorem ty_254 : zI Tryd.prog 48 = some [.nilf] := by kernel_rfl
@[go_sem] theorem ty_255 : isIf Tryd.prog 48 = false := by kernel_rfl
@[go_sem] theorem ty_256 : (Tryd.prog.underlying 49).isSome = true := by kernel_rfl
@[go_sem] theorem ty_257 : tyI Tryd.prog 49 = some (false, 1) := by kernel_rfl
@[go_sem] theorem ty_258 : zI Tryd.prog 49 = some [.nilf] := by kernel_rfl
@[go_sem] theorem ty_259 : isIf Tryd.prog 49 = false := by kernel_rfl
@[go_sem] theorem ty_260 : (Tryd.prog.underlying 50).isSome = true := by kernel_rfl
@[go_sem] theorem ty_261 : tyI Tryd.prog 50 = some (false, 1) := by kernel_rfl
@[go_sem] theorem ty_262 : isIf Tryd.prog 50 = false := by kernel_rfl
@[go_sem] theorem ty_263 : (Tryd.prog.underlying 51).isSome = true := by kernel_rfl
@[go_sem] theorem ty_264 : tyI Tryd.prog 51 = some (false, 1) := by kernel_rfl
@[go_sem] theorem ty_265 : zI Tryd.prog 51 = some [.nilf] := by kernel_rfl
@[go_sem] theorem ty_266 : isIf Tryd.prog 51 = false := by kernel_rfl
@[go_sem] theorem ty_267 : (Tryd.prog.underlying 52).isSome = true := by kernel_rfl
@[go_sem] theorem ty_268 : tyI Tryd.prog 52 = some (false, 1) := by kernel_rfl
@[go_sem] theorem ty_269 : zI Tryd.prog 52 = some [.nilf] := by kernel_rfl
@[go_sem] theorem ty_270 : isIf Tryd.prog 52 = false := by kernel_rfl
@[go_sem] theorem ty_271 : (Tryd.prog.underlying 53).isSome = true := by kernel_rfl
@[go_sem] theorem ty_272 : tyI Tryd.prog 53 = some (false, 1) := by kernel_rfl
@[go_sem] theorem ty_273 : zI Tryd.prog 53 = some [.nilf] := by kernel_rfl
@[go_sem] theorem ty_274 : isIf Tryd.prog 53 = false := by kernel_rfl
@[go_sem] theorem ty_275 : (Tryd.prog.underlying 54).isSome = true := by kernel_rfl
@[go_sem] theorem ty_276 : tyI Tryd.prog 54 = some (false, 1) := by kernel_rfl
@[go_sem] theorem ty_277 : zI Tryd.prog 54 = some [.nilf] := by kernel_rfl
@[go_sem] theorem ty_278 : isIf Tryd.prog 54 = false := by kernel_rfl
@[go_sem] theorem ty_279 : (Tryd.prog.underlying 55).isSome = true := by kernel_rfl
@[go_sem] theorem ty_280 : tyI Tryd.prog 55 = some (true, 6) := by kernel_rfl
@[go_sem] theorem ty_281 : fdI Tryd.prog 55 0 = some (0, 1, false) := by kernel_rfl
@[go_sem] theorem ty_282 : fdI Tryd.prog 55 1 = some (1, 1, false) := by kernel_rfl
@[go_sem] theorem ty_283 : fdI Tryd.prog 55 2 = some (2, 1, false) := by kernel_rfl
@[go_sem] theorem ty_284 : fdI Tryd.prog 55 3 = some (3, 1, false) := by kernel_rfl
@[go_sem] theorem ty_285 : fdI Tryd.prog 55 4 = some (4, 1, false) := by kernel_rfl
@[go_sem] theorem ty_286 : fdI Tryd.prog 55 5 = some (5, 1, false) := by kernel_rfl
@[go_sem] theorem ty_287 : bdI Tryd.prog 55 = some ([.d (.int .i64 0), .d (.str []), .d (.int .i64 0), .d (.int .i64 0), .d (.str []), .d (.str [])], [(0, 1), (1, 1), (2, 1), (3, 1), (4, 1), (5, 1)]) := by kernel_rfl
@[go_sem] theorem ty_288 : zI Tryd.prog 55 = some [.d (.int .i64 0), .d (.str []), .d (.int .i64 0), .d (.int .i64 0), .d (.str []), .d (.str [])] := by kernel_rfl
@[go_sem] theorem ty_289 : eqI Tryd.prog 55 = some [1, 3, 1, 1, 3, 3] := by kernel_rfl
@[go_sem] theorem ty_290 : isIf Tryd.prog 55 = false := by kernel_rfl
@[go_sem] theorem ty_291 : (Tryd.prog.underlying 56).isSome = true := by kernel_rfl
@[go_sem] theorem ty_292 : tyI Tryd.prog 56 = some (true, 6) := by kernel_rfl
@[go_sem] theorem ty_293 : fdI Tryd.prog 56 0 = some (0, 1, false) := by kernel_rfl
@[go_sem] theorem ty_294 : fdI Tryd.prog 56 1 = some (1, 1, false) := by kernel_rfl
@[go_sem] theorem ty_295 : fdI Tryd.prog 56 2 = some (2, 1, false) := by kernel_rfl
@[go_sem] theorem ty_296 : fdI Tryd.prog 56 3 = some (3, 1, false) := by kernel_rfl
@[go_sem] theorem ty_297 : fdI Tryd.prog 56 4 = some (4, 1, false) := by kernel_rfl
@[go_sem] theorem ty_298 : fdI Tryd.prog 56 5 = some (5, 1, false) := by kernel_rfl
@[go_sem] theorem ty_299 : bdI Tryd.prog 56 = some ([.d (.int .i64 0), .d (.str []), .d (.int .i64 0), .d (.int .i64 0), .d (.str []), .d (.str [])], [(0, 1), (1, 1), (2, 1), (3, 1), (4, 1), (5, 1)]) := by kernel_rfl
@[go_sem] theorem ty_300 : zI Tryd.prog 56 = some [.d (.int .i64 0), .d (.str []), .d (.int .i64 0), .d (.int .i64 0), .d (.str []), .d (.str [])] := by kernel_rfl
@[go_sem] theorem ty_301 : eqI Tryd.prog 56 = some [1, 3, 1, 1, 3, 3] := by kernel_rfl
@[go_sem] theorem ty_302 : isIf Tryd.prog 56 = false := by kernel_rfl
@[go_sem] theorem ty_303 : (Tryd.prog.underlying 57).isSome = true := by kernel_rfl
@[go_sem] theorem ty_304 : tyI Tryd.prog 57 = some (false, 1) := by kernel_rfl
@[go_sem] theorem ty_305 : zI Tryd.prog 57 = some [.nilf] := by kernel_rfl
@[go_sem] theorem ty_306 : isIf Tryd.prog 57 = false := by kernel_rfl
@[go_sem] theorem ty_307 : (Tryd.prog.underlying 58).isSome = true := by kernel_rfl
@[go_sem] theorem ty_308 : tyI Tryd.prog 58 = some (false, 1) := by kernel_rfl
@[go_sem] theorem ty_309 : zI Tryd.prog 58 = some [.nilf] := by kernel_rfl
@[go_sem] theorem ty_310 : isIf Tryd.prog 58 = false := by kernel_rfl
@[go_sem] theorem ty_311 : (Tryd.prog.underlying 59).isSome = true := by kernel_rfl
@[go_sem] theorem ty_312 : tyI Tryd.prog 59 = some (false, 1) := by kernel_rfl
@[go_sem] theorem ty_313 : zI Tryd.prog 59 = some [.nilf] := by kernel_rfl
@[go_sem] theorem ty_314 : isIf Tryd.prog 59 = false := by kernel_rfl
@[go_sem] theorem ty_315 : (Tryd.prog.underlying 60).isSome = true := by kernel_rfl
@[go_sem] theorem ty_316 : tyI Tryd.prog 60 = some (false, 1) := by kernel_rfl
@[go_sem] theorem ty_317 : zI Tryd.prog 60 = some [.nilf] := by kernel_rfl
@[go_sem] theorem ty_318 : isIf Tryd.prog 60 = false := by kernel_rfl
@[go_sem] theorem ty_319 : (Tryd.prog.underlying 61).isSome = true := by kernel_rfl
@[go_sem] theorem ty_320 : tyI Tryd.prog 61 = some (false, 1) := by kernel_rfl
@[go_sem] theorem ty_321 : zI Tryd.prog 61 = some [.nilf] := by kernel_rfl
@[go_sem] theorem ty_322 : isIf Tryd.prog 61 = false := by kernel_rfl
@[go_sem] theorem ty_323 : (Tryd.prog.underlying 62).isSome = true := by kernel_rfl
@[go_sem] theorem ty_324 : tyI Tryd.prog 62 = some (false, 1) := by kernel_rfl
@[go_sem] theorem ty_325 : slI Tryd.prog 62 = some (118, 2, 32) := by kernel_rfl
@[go_sem] theorem ty_326 : zI Tryd.prog 62 = some [.nils] := by kernel_rfl
@[go_sem] theorem ty_327 : isIf Tryd.prog 62 = false := by kernel_rfl
@[go_sem] theorem ty_328 : isBytes Tryd.prog 62 = false := by kernel_rfl
@[go_sem] theorem ty_329 : isSl Tryd.prog 62 = true := by kernel_rfl
@[go_sem] theorem ty_330 : (Tryd.prog.underlying 63).isSome = true := by kernel_rfl
@[go_sem] theorem ty_331 : tyI Tryd.prog 63 = some (true, 2) := by kernel_rfl
@[go_sem] theorem ty_332 : fdI Tryd.prog 63 0 = some (0, 1, false) := by kernel_rfl
@[go_sem] theorem ty_333 : fdI Tryd.prog 63 1 = some (1, 1, false) := by kernel_rfl
@[go_sem] theorem ty_334 : bdI Tryd.prog 63 = some ([.nils, .d (.str [])], [(0, 1), (1, 1)]) := by kernel_rfl
@[go_sem] theorem ty_335 : zI Tryd.prog 63 = some [.nils, .d (.str [])] := by kernel_rfl
@[go_sem] theorem ty_336 : isIf Tryd.prog 63 = false := by kernel_rfl
@[go_sem] theorem ty_337 : (Tryd.prog.underlying 64).isSome = true := by kernel_rfl
@[go_sem] theorem ty_338 : tyI Tryd.prog 64 = some (true, 2) := by kernel_rfl
@[go_sem] theorem ty_339 : fdI Tryd.prog 64 0 = some (0, 1, false) := by kernel_rfl
@[go_sem] theorem ty_340 : fdI Tryd.prog 64 1 = some (1, 1, false) := by kernel_rfl
@[go_sem] theorem ty_341 : bdI Tryd.prog 64 = some ([.nils, .d (.str [])], [(0, 1), (1, 1)]) := by kernel_rfl
@[go_sem] theorem ty_342 : zI Tryd.prog 64 = some [.nils, .d (.str [])] := by kernel_rfl
@[go_sem] theorem ty_343 : isIf Tryd.prog 64 = false := by kernel_rfl
@[go_sem] theorem ty_344 : (Tryd.prog.underlying 65).isSome = true := by kernel_rfl
@[go_sem] theorem ty_345 : tyI Tryd.prog 65 = some (false, 1) := by kernel_rfl
@[go_sem] theorem ty_346 : isIf Tryd.prog 65 = false := by kernel_rfl
@[go_sem] theorem ty_347 : (Tryd.prog.underlying 66).isSome = true := by kernel_rfl
@[go_sem] theorem ty_348 : tyI Tryd.prog 66 = some (false, 1) := by kernel_rfl
@[go_sem] theorem ty_349 : zI Tryd.prog 66 = some [.nilf] := by kernel_rfl
@[go_sem] theorem ty_350 : isIf Tryd.prog 66 = false := by kernel_rfl
@[go_sem] theorem ty_351 : (Tryd.prog.underlying 67).isSome = true := by kernel_rfl
@[go_sem] theorem ty_352 : tyI Tryd.prog 67 = some (false, 1) := by kernel_rfl
@[go_sem] theorem ty_353 : zI Tryd.prog 67 = some [.nilf] := by kernel_rfl
@[go_sem] theorem ty_354 : isIf Tryd.prog 67 = false := by kernel_rfl
@[go_sem] theorem ty_355 : (Tryd.prog.underlying 68).isSome = true := by kernel_rfl
@[go_sem] theorem ty_356 : tyI Tryd.prog 68 = some (false, 1) := by kernel_rfl
@[go_sem] theorem ty_357 : zI Tryd.prog 68 = some [.nilf] := by kernel_rfl
@[go_sem] theorem ty_358 : isIf Tryd.prog 68 = false := by kernel_rfl
@[go_sem] theorem ty_359 : (Tryd.prog.underlying 69).isSome = true := by kernel_rfl
@[go_sem] theorem ty_360 : tyI Tryd.prog 69 = some (false, 1) := by kernel_rfl
@[go_sem] theorem ty_361 : zI Tryd.prog 69 = some [.nilf] := by kernel_rfl
@[go_sem] theorem ty_362 : isIf Tryd.prog 69 = false := by kernel_rfl
@[go_sem] theorem ty_363 : (Tryd.prog.underlying 70).isSome = true := by kernel_rfl
@[go_sem] theorem ty_364 : tyI Tryd.prog 70 = some (false, 1) := by kernel_rfl
@[go_sem] theorem ty_365 : zI Tryd.prog 70 = some [.nilf] := by kernel_rfl
@[go_sem] theorem ty_366 : isIf Tryd.prog 70 = false := by kernel_rfl
@[go_sem] theorem ty_367 : (Tryd.prog.underlying 71).isSome = true := by kernel_rfl
@[go_sem] theorem ty_368 : tyI Tryd.prog 71 = some (false, 1) := by kernel_rfl
@[go_sem] theorem ty_369 : zI Tryd.prog 71 = some [.nilf] := by kernel_rfl
@[go_sem] theorem ty_370 : isIf Tryd.prog 71 = false := by kernel_rfl
@[go_sem] theorem ty_371 : (Tryd.prog.underlying 72).isSome = true := by kernel_rfl
@[go_sem] theorem ty_372 : tyI Tryd.prog 72 = some (false, 1) := by kernel_rfl
@[go_sem] theorem ty_373 : isIf Tryd.prog 72 = false := by kernel_rfl
@[go_sem] theorem ty_374 : (Tryd.prog.underlying 73).isSome = true := by kernel_rfl
@[go_sem] theorem ty_375 : tyI Tryd.prog 73 = some (false, 1) := by kernel_rfl
@[go_sem] theorem ty_376 : zI Tryd.prog 73 = some [.nilf] := by kernel_rfl
@[go_sem] theorem ty_377 : isIf Tryd.prog 73 = false := by kernel_rfl
@[go_sem] theorem ty_378 : (Tryd.prog.underlying 74).isSome = true := by kernel_rfl
@[go_sem] theorem ty_379 : tyI Tryd.prog 74 = some (false, 1) := by kernel_rfl
@[go_sem] theorem ty_380 : slI Tryd.prog 74 = some (9, 1, 16) := by kernel_rfl
@[go_sem] theorem ty_381 : zI Tryd.prog 74 = some [.nils] := by kernel_rfl
@[go_sem] theorem ty_382 : isIf Tryd.prog 74 = false := by kernel_rfl
@[go_sem] theorem ty_383 : isBytes Tryd.prog 74 = false := by kernel_rfl
@[go_sem] theorem ty_384 : isSl Tryd.prog 74 = true := by kernel_rfl
@[go_sem] theorem ty_385 : (Tryd.prog.underlying 75).isSome = true := by kernel_rfl
@[go_sem] theorem ty_386 : tyI Tryd.prog 75 = some (false, 1) := by kernel_rfl
@[go_sem] theorem ty_387 : isIf Tryd.prog 75 = false := by kernel_rfl
@[go_sem] theorem ty_388 : (Tryd.prog.underlying 76).isSome = true := by kernel_rfl
@[go_sem] theorem ty_389 : tyI Tryd.prog 76 = some (false, 1) := by kernel_rfl
@[go_sem] theorem ty_390 : zI Tryd.prog 76 = some [.nilf] := by kernel_rfl
@[go_sem] theorem ty_391 : isIf Tryd.prog 76 = false := by kernel_rfl
@[go_sem] theorem ty_392 : (Tryd.prog.underlying 77).isSome = true := by kernel_rfl
@[go_sem] theorem ty_393 : tyI Tryd.prog 77 = some (false, 1) := by kernel_rfl
@[go_sem] theorem ty_394 : zI Tryd.prog 77 = some [.nilf] := by kernel_rfl
@[go_sem] theorem ty_395 : isIf Tryd.prog 77 = false := by kernel_rfl
@[go_sem] theorem ty_396 : (Tryd.prog.underlying 78).isSome = true := by kernel_rfl
@[go_sem] theorem ty_397 : tyI Tryd.prog 78 = some (false, 1) := by kernel_rfl
@[go_sem] theorem ty_398 : zI Tryd.prog 78 = some [.nilf] := by kernel_rfl
@[go_sem] theorem ty_399 : isIf Tryd.prog 78 = false := by kernel_rfl
@[go_sem] theorem ty_400 : (Tryd.prog.underlying 79).isSome = true := by kernel_rfl
@[go_sem] theorem ty_401 : tyI Tryd.prog 79 = some (true, 2) := by kernel_rfl
@[go_sem] theorem ty_402 : fdI Tryd.prog 79 0 = some (0, 1, false) := by kernel_rfl
@[go_sem] theorem ty_403 : fdI Tryd.prog 79 1 = some (1, 1, false) := by kernel_rfl
@[go_sem] theorem ty_404 : bdI Tryd.prog 79 = some ([.d (.str []), .d (.str [])], [(0, 1), (1, 1)]) := by kernel_rfl
@[go_sem] theorem ty_405 : zI Tryd.prog 79 = some [.d (.str []), .d (.str [])] := by kernel_rfl
@[go_sem] theorem ty_406 : eqI Tryd.prog 79 = some [3, 3] := by kernel_rfl
@[go_sem] theorem ty_407 : isIf Tryd.prog 79 = false := by kernel_rfl
@[go_sem] theorem ty_408 : (Tryd.prog.underlying 80).isSome = true := by kernel_rfl
@[go_sem] theorem ty_409 : tyI Tryd.prog 80 = some (true, 2) := by kernel_rfl
@[go_sem] theorem ty_410 : fdI Tryd.prog 80 0 = some (0, 1, false) := by kernel_rfl
@[go_sem] theorem ty_411 : fdI Tryd.prog 80 1 = some (1, 1, false) := by kernel_rfl
@[go_sem] theorem ty_412 : bdI Tryd.prog 80 = some ([.d (.str []), .d (.str [])], [(0, 1), (1, 1)]) := by kernel_rfl
@[go_sem] theorem ty_413 : zI Tryd.prog 80 = some [.d (.str []), .d (.str [])] := by kernel_rfl
@[go_sem] theorem ty_414 : eqI Tryd.prog 80 = some [3, 3] := by kernel_rfl
@[go_sem] theorem ty_415 : isIf Tryd.prog 80 = false := by kernel_rfl
@[go_sem] theorem ty_416 : (Tryd.prog.underlying 81).isSome = true := by kernel_rfl
@[go_sem] theorem ty_417 : tyI Tryd.prog 81 = some (true, 5) := by kernel_rfl
@[go_sem] theorem ty_418 : fdI Tryd.prog 81 0 = some (0, 2, true) := by kernel_rfl
@[go_sem] theorem ty_419 : fdI Tryd.prog 81 1 = some (2, 2, true) := by kernel_rfl
@[go_sem] theorem ty_420 : fdI Tryd.prog 81 2 = some (4, 1, false) := by kernel_rfl
@[go_sem] theorem ty_421 : bdI Tryd.prog 81 = some ([.d (.str []), .d (.str []), .d (.str []), .d (.str []), .d (.str [])], [(0, 2), (2, 2), (4, 1)]) := by kernel_rfl
@[go_sem] theorem ty_422 : zI Tryd.prog 81 = some [.d (.str []), .d (.str []), .d (.str []), .d (.str []), .d (.str [])] := by kernel_rfl
@[go_sem] theorem ty_423 : eqI Tryd.prog 81 = some [3, 3, 3, 3, 3] := by kernel_rfl
@[go_sem] theorem ty_424 : isIf Tryd.prog 81 = false := by kernel_rfl
@[go_sem] theorem ty_425 : (Tryd.prog.underlying 82).isSome = true := by kernel_rfl
@[go_sem] theorem ty_426 : tyI Tryd.prog 82 = some (true, 5) := by kernel_rfl
@[go_sem] theorem ty_427 : fdI Tryd.prog 82 0 = some (0, 2, true) := by kernel_rfl
@[go_sem] theorem ty_428 : fdI Tryd.prog 82 1 = some (2, 2, true) := by kernel_rfl
@[go_sem] theorem ty_429 : fdI Tryd.prog 82 2 = some (4, 1, false) := by kernel_rfl
@[go_sem] theorem ty_430 : bdI Tryd.prog 82 = some ([.d (.str []), .d (.str []), .d (.str []), .d (.str []), .d (.str [])], [(0, 2), (2, 2), (4, 1)]) := by kernel_rfl
@[go_sem] theorem ty_431 : zI Tryd.prog 82 = some [.d (.str []), .d (.str []), .d (.str []), .d (.str []), .d (.str [])] := by kernel_rfl
@[go_sem] theorem ty_432 : eqI Tryd.prog 82 = some [3, 3, 3, 3, 3] := by kernel_rfl
@[go_sem] theorem ty_433 : isIf Tryd.prog 82 = false := by kernel_rfl
@[go_sem] theorem ty_434 : (Tryd.prog.underlying 83).isSome = true := by kernel_rfl
@[go_sem] theorem ty_435 : tyI Tryd.prog 83 = some (false, 1) := by kernel_rfl
@[go_sem] theorem ty_436 : isIf Tryd.prog 83 = false := by kernel_rfl
@[go_sem] theorem ty_437 : (Tryd.prog.underlying 84).isSome = true := by kernel_rfl
@[go_sem] theorem ty_438 : tyI Tryd.prog 84 = some (false, 1) := by kernel_rfl
@[go_sem] theorem ty_439 : zI Tryd.prog 84 = some [.nilf] := by kernel_rfl
@[go_sem] theorem ty_440 : isIf Tryd.prog 84 = false := by kernel_rfl
@[go_sem] theorem ty_441 : (Tryd.prog.underlying 85).isSome = true := by kernel_rfl
@[go_sem] theorem ty_442 : tyI Tryd.prog 85 = some (false, 1) := by kernel_rfl
@[go_sem] theorem ty_443 : zI Tryd.prog 85 = some [.nilf] := by kernel_rfl
@[go_sem] theorem ty_444 : isIf Tryd.prog 85 = false := by kernel_rfl
@[go_sem] theorem ty_445 : (Tryd.prog.underlying 86).isSome = true := by kernel_rfl
@[go_sem] theorem ty_446 : tyI Tryd.prog 86 = some (false, 1) := by kernel_rfl
@[go_sem] theorem ty_447 : isIf Tryd.prog 86 = false := by kernel_rfl
@[go_sem] theorem ty_448 : (Tryd.prog.underlying 87).isSome = true := by kernel_rfl
@[go_sem] theorem ty_449 : tyI Tryd.prog 87 = some (false, 1) := by kernel_rfl
@[go_sem] theorem ty_450 : zI Tryd.prog 87 = some [.nilf] := by kernel_rfl
@[go_sem] theorem ty_451 : isIf Tryd.prog 87 = false := by kernel_rfl
@[go_sem] theorem ty_452 : (Tryd.prog.underlying 88).isSome = true := by kernel_rfl
@[go_sem] theorem ty_453 : tyI Tryd.prog 88 = some (false, 1) := by kernel_rfl
@[go_sem] theorem ty_454 : zI Tryd.prog 88 = some [.nilf] := by kernel_rfl
@[go_sem] theorem ty_455 : isIf Tryd.prog 88 = false := by kernel_rfl
@[go_sem] theorem ty_456 : (Tryd.prog.underlying 89).isSome = true := by kernel_rfl
@[go_sem] theorem ty_457 : tyI Tryd.prog 89 = some (false, 1) := by kernel_rfl
@[go_sem] theorem ty_458 : zI Tryd.prog 89 = some [.nilf] := by kernel_rfl
@[go_sem] theorem ty_459 : isIf Tryd.prog 89 = false := by kernel_rfl
@[go_sem] theorem ty_460 : (Tryd.prog.underlying 90).isSome = true := by kernel_rfl
@[go_sem] theorem ty_461 : tyI Tryd.prog 90 = some (false, 1) := by kernel_rfl
@[go_sem] theorem ty_462 : slI Tryd.prog 90 = some (97, 3, 32) := by kernel_rfl
@[go_sem] theorem ty_463 : zI Tryd.prog 90 = some [.nils] := by kernel_rfl
@[go_sem] theorem ty_464 : isIf Tryd.prog 90 = false := by kernel_rfl
@[go_sem] theorem ty_465 : isBytes Tryd.prog 90 = false := by kernel_rfl
@[go_sem] theorem ty_466 : isSl Tryd.prog 90 = true := by kernel_rfl
@[go_sem] theorem ty_467 : (Tryd.prog.underlying 91).isSome = true := by kernel_rfl
@[go_sem] theorem ty_468 : tyI Tryd.prog 91 = some (true, 3) := by kernel_rfl
@[go_sem] theorem ty_469 : fdI Tryd.prog 91 0 = some (0, 1, false) := by kernel_rfl
@[go_sem] theorem ty_470 : fdI Tryd.prog 91 1 = some (1, 1, false) := by kernel_rfl
@[go_sem] theorem ty_471 : fdI Tryd.prog 91 2 = some (2, 1, false) := by kernel_rfl
@[go_sem] theorem ty_472 : bdI Tryd.prog 91 = some ([.d (.str []), .d (.int .i64 0), .nils], [(0, 1), (1, 1), (2, 1)]) := by kernel_rfl
@[go_sem] theorem ty_473 : zI Tryd.prog 91 = some [.d (.str []), .d (.int .i64 0), .nils] := by kernel_rfl
@[go_sem] theorem ty_474 : isIf Tryd.prog 91 = false := by kernel_rfl
@[go_sem] theorem ty_475 : (Tryd.prog.underlying 92).isSome = true := by kernel_rfl
@[go_sem] theorem ty_476 : tyI Tryd.prog 92 = some (true, 3) := by kernel_rfl
@[go_sem] theorem ty_477 : fdI Tryd.prog 92 0 = some (0, 1, false) := by kernel_rfl
@[go_sem] theorem ty_478 : fdI Tryd.prog 92 1 = some (1, 1, false) := by kernel_rfl
@[go_sem] theorem ty_479 : fdI Tryd.prog 92 2 = some (2, 1, false) := by kernel_rfl
@[go_sem] theorem ty_480 : bdI Tryd.prog 92 = some ([.d (.str []), .d (.int .i64 0), .nils], [(0, 1), (1, 1), (2, 1)]) := by kernel_rfl
@[go_sem] theorem ty_481 : zI Tryd.prog 92 = some [.d (.str []), .d (.int .i64 0), .nils] := by kernel_rfl
@[go_sem] theorem ty_482 : isIf Tryd.prog 92 = false := by kernel_rfl
@[go_sem] theorem ty_483 : (Tryd.prog.underlying 93).isSome = true := by kernel_rfl
@[go_sem] theorem ty_484 : tyI Tryd.prog 93 = some (false, 1) := by kernel_rfl
@[go_sem] theorem ty_485 : zI Tryd.prog 93 = some [.nilf] := by kernel_rfl
@[go_sem] theorem ty_486 : isIf Tryd.prog 93 = false := by kernel_rfl
@[go_sem] theorem ty_487 : (Tryd.prog.underlying 94).isSome = true := by kernel_rfl
@[go_sem] theorem ty_488 : tyI Tryd.prog 94 = some (false, 1) := by kernel_rfl
@[go_sem] theorem ty_489 : zI Tryd.prog 94 = some [.nilf] := by kernel_rfl
@[go_sem] theorem ty_490 : isIf Tryd.prog 94 = false := by kernel_rfl
@[go_sem] theorem ty_491 : (Tryd.prog.underlying 95).isSome = true := by kernel_rfl
@[go_sem] theorem ty_492 : tyI Tryd.prog 95 = some (false, 1) := by kernel_rfl
@[go_sem] theorem ty_493 : zI Tryd.prog 95 = some [.nilf] := by kernel_rfl
@[go_sem] theorem ty_494 : isIf Tryd.prog 95 = false := by kernel_rfl
@[go_sem] theorem ty_495 : (Tryd.prog.underlying 96).isSome = true := by kernel_rfl
@[go_sem] theorem ty_496 : tyI Tryd.prog 96 = some (true, 3) := by kernel_rfl
@[go_sem] theorem ty_497 : fdI Tryd.prog 96 0 = some (0, 1, false) := by kernel_rfl
@[go_sem] theorem ty_498 : fdI Tryd.prog 96 1 = some (1, 1, false) := by kernel_rfl
@[go_sem] theorem ty_499 : fdI Tryd.prog 96 2 = some (2, 1, false) := by kernel_rfl
@[go_sem] theorem ty_500 : bdI Tryd.prog 96 = some ([.d (.int .i64 0), .d (.int .i64 0), .d (.str [])], [(0, 1), (1, 1), (2, 1)]) := by kernel_rfl
@[go_sem] theorem ty_501 : zI Tryd.prog 96 = some [.d (.int .i64 0), .d (.int .i64 0), .d (.str [])] := by kernel_rfl
@[go_sem] theorem ty_502 : eqI Tryd.prog 96 = some [1, 1, 3] := by kernel_rfl
@[go_sem] theorem ty_503 : isIf Tryd.prog 96 = false := by kernel_rfl
@[go_sem] theorem ty_504 : (Tryd.prog.underlying 97).isSome = true := by kernel_rfl
@[go_sem] theorem ty_505 : tyI Tryd.prog 97 = some (true, 3) := by kernel_rfl
@[go_sem] theorem ty_506 : fdI Tryd.prog 97 0 = some (0, 1, false) := by kernel_rfl
@[go_sem] theorem ty_507 : fdI Tryd.prog 97 1 = some (1, 1, false) := by kernel_rfl
@[go_sem] theorem ty_508 : fdI Tryd.prog 97 2 = some (2, 1, false) := by kernel_rfl
@[go_sem] theorem ty_509 : bdI Tryd.prog 97 = some ([.d (.int .i64 0), .d (.int .i64 0), .d (.str [])], [(0, 1), (1, 1), (2, 1)]) := by kernel_rfl
@[go_sem] theorem ty_510 : zI Tryd.prog 97 = some [.d (.int .i64 0), .d (.int .i64 0), .d (.str [])] := by kernel_rfl
@[go_sem] theorem ty_511 : eqI Tryd.prog 97 = some [1, 1, 3] := by kernel_rfl
@[go_sem] theorem ty_512 : isIf Tryd.prog 97 = false := by kernel_rfl
@[go_sem] theorem ty_513 : (Tryd.prog.underlying 98).isSome = true := by kernel_rfl
@[go_sem] theorem ty_514 : tyI Tryd.prog 98 = some (false, 1) := by kernel_rfl
@[go_sem] theorem ty_515 : zI Tryd.prog 98 = some [.nilf] := by kernel_rfl
@[go_sem] theorem ty_516 : isIf Tryd.prog 98 = false := by kernel_rfl
@[go_sem] theorem ty_517 : (Tryd.prog.underlying 99).isSome = true := by kernel_rfl
@[go_sem] theorem ty_518 : tyI Tryd.prog 99 = some (false, 1) := by kernel_rfl
@[go_sem] theorem ty_519 : isIf Tryd.prog 99 = false := by kernel_rfl
@[go_sem] theorem ty_520 : (Tryd.prog.underlying 100).isSome = true := by kernel_rfl
@[go_sem] theorem ty_521 : tyI Tryd.prog 100 = some (false, 1) := by kernel_rfl
@[go_sem] theorem ty_522 : zI Tryd.prog 100 = some [.nilf] := by kernel_rfl
@[go_sem] theorem ty_523 : isIf Tryd.prog 100 = false := by kernel_rfl
@[go_sem] theorem ty_524 : (Tryd.prog.underlying 101).isSome = true := by kernel_rfl
@[go_sem] theorem ty_525 : tyI Tryd.prog 101 = some (false, 1) := by kernel_rfl
@[go_sem] theorem ty_526 : isIf Tryd.prog 101 = false := by kernel_rfl
@[go_sem] theorem ty_527 : (Tryd.prog.underlying 102).isSome = true := by kernel_rfl
@[go_sem] theorem ty_528 : tyI Tryd.prog 102 = some (false, 1) := by kernel_rfl
@[go_sem] theorem ty_529 : zI Tryd.prog 102 = some [.nilf] := by kernel_rfl
@[go_sem] theorem ty_530 : isIf Tryd.prog 102 = false := by kernel_rfl
@[go_sem] theorem ty_531 : (Tryd.prog.underlying 103).isSome = true := by kernel_rfl
@[go_sem] theorem ty_532 : tyI Tryd.prog 103 = some (false, 1) := by kernel_rfl
@[go_sem] theorem ty_533 : zI Tryd.prog 103 = some [.nilf] := by kernel_rfl
@[go_sem] theorem ty_534 : isIf Tryd.prog 103 = false := by kernel_rfl
@[go_sem] theorem ty_535 : (Tryd.prog.underlying 104).isSome = true := by kernel_rfl
@[go_sem] theorem ty_536 : tyI Tryd.prog 104 = some (false, 1) := by kernel_rfl
@[go_sem] theorem ty_537 : zI Tryd.prog 104 = some [.nilf] := by kernel_rfl
@[go_sem] theorem ty_538 : isIf Tryd.prog 104 = false := by kernel_rfl
@[go_sem] theorem ty_539 : (Tryd.prog.underlying 105).isSome = true := by kernel_rfl
@[go_sem] theorem ty_540 : tyI Tryd.prog 105 = some (false, 1) := by kernel_rfl
@[go_sem] theorem ty_541 : zI Tryd.prog 105 = some [.nilp] := by kernel_rfl
@[go_sem] theorem ty_542 : isIf Tryd.prog 105 = false := by kernel_rfl
@[go_sem] theorem ty_543 : (Tryd.prog.underlying 106).isSome = true := by kernel_rfl
@[go_sem] theorem ty_544 : tyI Tryd.prog 106 = some (true, 2) := by kernel_rfl
@[go_sem] theorem ty_545 : fdI Tryd.prog 106 0 = some (0, 1, false) := by kernel_rfl
@[go_sem] theorem ty_546 : fdI Tryd.prog 106 1 = some (1, 1, false) := by kernel_rfl
@[go_sem] theorem ty_547 : bdI Tryd.prog 106 = some ([.nils, .d (.bool false)], [(0, 1), (1, 1)]) := by kernel_rfl
@[go_sem] theorem ty_548 : zI Tryd.prog 106 = some [.nils, .d (.bool false)] := by kernel_rfl
@[go_sem] theorem ty_549 : isIf Tryd.prog 106 = false := by kernel_rfl
@[go_sem] theorem ty_550 : (Tryd.prog.underlying 107).isSome = true := by kernel_rfl
@[go_sem] theorem ty_551 : tyI Tryd.prog 107 = some (true, 2) := by kernel_rfl
@[go_sem] theorem ty_552 : fdI Tryd.prog 107 0 = some (0, 1, false) := by kernel_rfl
@[go_sem] theorem ty_553 : fdI Tryd.prog 107 1 = some (1, 1, false) := by kernel_rfl
@[go_sem] theorem ty_554 : bdI Tryd.prog 107 = some ([.nils, .d (.bool false)], [(0, 1), (1, 1)]) := by kernel_rfl
@[go_sem] theorem ty_555 : zI Tryd.prog 107 = some [.nils, .d (.bool false)] := by kernel_rfl
@[go_sem] theorem ty_556 : isIf Tryd.prog 107 = false := by kernel_rfl
@[go_sem] theorem ty_557 : (Tryd.prog.underlying 108).isSome = true := by kernel_rfl
@[go_sem] theorem ty_558 : tyI Tryd.prog 108 = some (false, 1) := by kernel_rfl
@[go_sem] theorem ty_559 : zI Tryd.prog 108 = some [.nilf] := by kernel_rfl
@[go_sem] theorem ty_560 : isIf Tryd.prog 108 = false := by kernel_rfl
@[go_sem] theorem ty_561 : (Tryd.prog.underlying 109).isSome = true := by kernel_rfl
@[go_sem] theorem ty_562 : tyI Tryd.prog 109 = some (false, 1) := by kernel_rfl
@[go_sem] theorem ty_563 : zI Tryd.prog 109 = some [.nilf] := by kernel_rfl
@[go_sem] theorem ty_564 : isIf Tryd.prog 109 = false := by kernel_rfl
@[go_sem] theorem ty_565 : (Tryd.prog.underlying 110).isSome = true := by kernel_rfl
@[go_sem] theorem ty_566 : tyI Tryd.prog 110 = some (false, 1) := by kernel_rfl
@[go_sem] theorem ty_567 : zI Tryd.prog 110 = some [.nilf] := by kernel_rfl
@[go_sem] theorem ty_568 : isIf Tryd.prog 110 = false := by kernel_rfl
@[go_sem] theorem ty_569 : (Tryd.prog.underlying 111).isSome = true := by kernel_rfl
@[go_sem] theorem ty_570 : tyI Tryd.prog 111 = some (false, 1) := by kernel_rfl
@[go_sem] theorem ty_571 : zI Tryd.prog 111 = some [.nilp] := by kernel_rfl
@[go_sem] theorem ty_572 : isIf Tryd.prog 111 = false := by kernel_rfl
@[go_sem] theorem ty_573 : (Tryd.prog.underlying 112).isSome = true := by kernel_rfl
@[go_sem] theorem ty_574 : tyI Tryd.prog 112 = some (false, 1) := by kernel_rfl
@[go_sem] theorem ty_575 : zI Tryd.prog 112 = some [.nilf] := by kernel_rfl
@[go_sem] theorem ty_576 : isIf Tryd.prog 112 = false := by kernel_rfl
@[go_sem] theorem ty_577 : (Tryd.prog.underlying 113).isSome = true := by kernel_rfl
@[go_sem] theorem ty_578 : tyI Tryd.prog 113 = some (false, 1) := by kernel_rfl
@[go_sem] theorem ty_579 : zI Tryd.prog 113 = some [.nilf] := by kernel_rfl
@[go_sem] theorem ty_580 : isIf Tryd.prog 113 = false := by kernel_rfl
@[go_sem] theorem ty_581 : (Tryd.prog.underlying 114).isSome = true := by kernel_rfl
@[go_sem] theorem ty_582 : tyI Tryd.prog 114 = some (false, 1) := by kernel_rfl
@[go_sem] theorem ty_583 : isIf Tryd.prog 114 = false := by kernel_rfl
@[go_sem] theorem ty_584 : (Tryd.prog.underlying 115).isSome = true := by kernel_rfl
@[go_sem] theorem ty_585 : tyI Tryd.prog 115 = some (false, 1) := by kernel_rfl
@[go_sem] theorem ty_586 : zI Tryd.prog 115 = some [.nilf] := by kernel_rfl
@[go_sem] theorem ty_587 : isIf Tryd.prog 115 = false := by kernel_rfl
@[go_sem] theorem ty_588 : (Tryd.prog.underlying 116).isSome = true := by kernel_rfl
@[go_sem] theorem ty_589 : tyI Tryd.prog 116 = some (false, 1) := by kernel_rfl
@[go_sem] theorem ty_590 : zI Tryd.prog 116 = some [.nilf] := by kernel_rfl
@[go_sem] theorem ty_591 : isIf Tryd.prog 116 = false := by kernel_rfl
@[go_sem] theorem ty_592 : (Tryd.prog.underlying 117).isSome = true := by kernel_rfl
@[go_sem] theorem ty_593 : tyI Tryd.prog 117 = some (true, 2) := by kernel_rfl
@[go_sem] theorem ty_594 : fdI Tryd.prog 117 0 = some (0, 1, false) := by kernel_rfl
@[go_sem] theorem ty_595 : fdI Tryd.prog 117 1 = some (1, 1, false) := by kernel_rfl
@[go_sem] theorem ty_596 : bdI Tryd.prog 117 = some ([.d (.str []), .d (.str [])], [(0, 1), (1, 1)]) := by kernel_rfl
@[go_sem] theorem ty_597 : zI Tryd.prog 117 = some [.d (.str []), .d (.str [])] := by kernel_rfl
@[go_sem] theorem ty_598 : eqI Tryd.prog 117 = some [3, 3] := by kernel_rfl
@[go_sem] theorem ty_599 : isIf Tryd.prog 117 = false := by kernel_rfl
@[go_sem] theorem ty_600 : (Tryd.prog.underlying 118).isSome = true := by kernel_rfl
@[go_sem] theorem ty_601 : tyI Tryd.prog 118 = some (true, 2) := by kernel_rfl
@[go_sem] theorem ty_602 : fdI Tryd.prog 118 0 = some (0, 1, false) := by kernel_rfl
@[go_sem] theorem ty_603 : fdI Tryd.prog 118 1 = some (1, 1, false) := by kernel_rfl
@[go_sem] theorem ty_604 : bdI Tryd.prog 118 = some ([.d (.str []), .d (.str [])], [(0, 1), (1, 1)]) := by kernel_rfl
@[go_sem] theorem ty_605 : zI Tryd.prog 118 = some [.d (.str []), .d (.str [])] := by kernel_rfl
@[go_sem] theorem ty_606 : eqI Tryd.prog 118 = some [3, 3] := by kernel_rfl
@[go_sem] theorem ty_607 : isIf Tryd.prog 118 = false := by kernel_rfl
@[go_sem] theorem ty_608 : (Tryd.prog.underlying 119).isSome = true := by kernel_rfl
@[go_sem] theorem ty_609 : tyI Tryd.prog 119 = some (false, 1) := by kernel_rfl
@[go_sem] theorem ty_610 : zI Tryd.prog 119 = some [.nilf] := by kernel_rfl
@[go_sem] theorem ty_611 : isIf Tryd.prog 119 = false := by kernel_rfl
@[go_sem] theorem ty_612 : (Tryd.prog.underlying 120).isSome = true := by kernel_rfl
@[go_sem] theorem ty_613 : tyI Tryd.prog 120 = some (false, 1) := by kernel_rfl
@[go_sem] theorem ty_614 : zI Tryd.prog 120 = some [.nilf] := by kernel_rfl
@[go_sem] theorem ty_615 : isIf Tryd.prog 120 = false := by kernel_rfl
@[go_sem] theorem ty_616 : (Tryd.prog.underlying 121).isSome = true := by kernel_rfl
@[go_sem] theorem ty_617 : tyI Tryd.prog 121 = some (false, 1) := by kernel_rfl
@[go_sem] theorem ty_618 : zI Tryd.prog 121 = some [.nilf] := by kernel_rfl
@[go_sem] theorem ty_619 : isIf Tryd.prog 121 = false := by kernel_rfl
@[go_sem] theorem ty_620 : (Tryd.prog.underlying 122).isSome = true := by kernel_rfl
@[go_sem] theorem ty_621 : tyI Tryd.prog 122 = some (false, 1) := by kernel_rfl
@[go_sem] theorem ty_622 : zI Tryd.prog 122 = some [.nilf] := by kernel_rfl
@[go_sem] theorem ty_623 : isIf Tryd.prog 122 = false := by kernel_rfl
@[go_sem] theorem ty_624 : (Tryd.prog.underlying 123).isSome = true := by kernel_rfl
@[go_sem] theorem ty_625 : tyI Tryd.prog 123 = some (false, 1) := by kernel_rfl
@[go_sem] theorem ty_626 : zI Tryd.prog 123 = some [.nilf] := by kernel_rfl
@[go_sem] theorem ty_627 : isIf Tryd.prog 123 = false := by kernel_rfl
@[go_sem] theorem ty_628 : (Tryd.prog.underlying 124).isSome = true := by kernel_rfl
@[go_sem] theorem ty_629 : tyI Tryd.prog 124 = some (false, 1) := by kernel_rfl
@[go_sem] theorem ty_630 : zI Tryd.prog 124 = some [.nilf] := by kernel_rfl
@[go_sem] theorem ty_631 : isIf Tryd.prog 124 = false := by kernel_rfl
@[go_sem] theorem ty_632 : (Tryd.prog.underlying 125).isSome = true := by kernel_rfl
@[go_sem] theorem ty_633 : tyI Tryd.prog 125 = some (false, 1) := by kernel_rfl
@[go_sem] theorem ty_634 : isIf Tryd.prog 125 = false := by kernel_rfl
@[go_sem] theorem ty_635 : (Tryd.prog.underlying 126).isSome = true := by kernel_rfl
@[go_sem] theorem ty_636 : tyI Tryd.prog 126 = some (false, 1) := by kernel_rfl
@[go_sem] theorem ty_637 : zI Tryd.prog 126 = some [.nilf] := by kernel_rfl
@[go_sem] theorem ty_638 : isIf Tryd.prog 126 = false := by kernel_rfl
@[go_sem] theorem ty_639 : (Tryd.prog.underlying 127).isSome = true := by kernel_rfl
@[go_sem] theorem ty_640 : tyI Tryd.prog 127 = some (false, 1) := by kernel_rfl
@[go_sem] theorem ty_641 : zI Tryd.prog 127 = some [.nilf] := by kernel_rfl
@[go_sem] theorem ty_642 : isIf Tryd.prog 127 = false := by kernel_rfl
@[go_sem] theorem ty_643 : (Tryd.prog.underlying 128).isSome = true := by kernel_rfl
@[go_sem] theorem ty_644 : tyI Tryd.prog 128 = some (true, 4) := by kernel_rfl
@[go_sem] theorem ty_645 : arI Tryd.prog 128 = some (2, 2, true) := by kernel_rfl
@[go_sem] theorem ty_646 : bdI Tryd.prog 128 = some ([.d (.str []), .d (.str []), .d (.str []), .d (.str [])], [(0, 2), (2, 2)]) := by kernel_rfl
@[go_sem] theorem ty_647 : zI Tryd.prog 128 = some [.d (.str []), .d (.str []), .d (.str []), .d (.str [])] := by kernel_rfl
@[go_sem] theorem ty_648 : isIf Tryd.prog 128 = false := by kernel_rfl
@[go_sem] theorem ty_649 : (Tryd.prog.underlying 129).isSome = true := by kernel_rfl
@[go_sem] theorem ty_650 : tyI Tryd.prog 129 = some (false, 1) := by kernel_rfl
@[go_sem] theorem ty_651 : zI Tryd.prog 129 = some [.nilf] := by kernel_rfl
@[go_sem] theorem ty_652 : isIf Tryd.prog 129 = false := by kernel_rfl
@[go_sem] theorem ty_653 : (Tryd.prog.underlying 130).isSome = true := by kernel_rfl
@[go_sem] theorem ty_654 : tyI Tryd.prog 130 = some (false, 1) := by kernel_rfl
@[go_sem] theorem ty_655 : zI Tryd.prog 130 = some [.nilf] := by kernel_rfl
@[go_sem] theorem ty_656 : isIf Tryd.prog 130 = false := by kernel_rfl
@[go_sem] theorem ty_657 : (Tryd.prog.underlying 131).isSome = true := by kernel_rfl
@[go_sem] theorem ty_658 : tyI Tryd.prog 131 = some (false, 1) := by kernel_rfl
@[go_sem] theorem ty_659 : isIf Tryd.prog 131 = false := by kernel_rfl
@[go_sem] theorem ty_660 : (Tryd.prog.underlying 132).isSome = true := by kernel_rfl
@[go_sem] theorem ty_661 : tyI Tryd.prog 132 = some (false, 1) := by kernel_rfl
@[go_sem] theorem ty_662 : zI Tryd.prog 132 = some [.nilf] := by kernel_rfl
@[go_sem] theorem ty_663 : isIf Tryd.prog 132 = false := by kernel_rfl
@[go_sem] theorem ty_664 : (Tryd.prog.underlying 133).isSome = true := by kernel_rfl
@[go_sem] theorem ty_665 : tyI Tryd.prog 133 = some (false, 1) := by kernel_rfl
@[go_sem] theorem ty_666 : zI Tryd.prog 133 = some [.nilf] := by kernel_rfl
@[go_sem] theorem ty_667 : isIf Tryd.prog 133 = false := by kernel_rfl
@[go_sem] theorem ty_668 : (Tryd.prog.underlying 134).isSome = true := by kernel_rfl
@[go_sem] theorem ty_669 : tyI Tryd.prog 134 = some (false, 1) := by kernel_rfl
@[go_sem] theorem ty_670 : slI Tryd.prog 134 = some (80, 2, 32) := by kernel_rfl
@[go_sem] theorem ty_671 : zI Tryd.prog 134 = some [.nils] := by kernel_rfl
@[go_sem] theorem ty_672 : isIf Tryd.prog 134 = false := by kernel_rfl
@[go_sem] theorem ty_673 : isBytes Tryd.prog 134 = false := by kernel_rfl
@[go_sem] theorem ty_674 : isSl Tryd.prog 134 = true := by kernel_rfl
@[go_sem] theorem ty_675 : (Tryd.prog.underlying 135).isSome = true := by kernel_rfl
@[go_sem] theorem ty_676 : tyI Tryd.prog 135 = some (false, 1) := by kernel_rfl
@[go_sem] theorem ty_677 : isIf Tryd.prog 135 = false := by kernel_rfl
@[go_sem] theorem ty_678 : (Tryd.prog.underlying 136).isSome = true := by kernel_rfl
@[go_sem] theorem ty_679 : tyI Tryd.prog 136 = some (false, 1) := by kernel_rfl
@[go_sem] theorem ty_680 : zI Tryd.prog 136 = some [.nilf] := by kernel_rfl
@[go_sem] theorem ty_681 : isIf Tryd.prog 136 = false := by kernel_rfl
@[go_sem] theorem ty_682 : (Tryd.prog.underlying 137).isSome = true := by kernel_rfl
@[go_sem] theorem ty_683 : tyI Tryd.prog 137 = some (false, 1) := by kernel_rfl
@[go_sem] theorem ty_684 : zI Tryd.prog 137 = some [.nilf] := by kernel_rfl
@[go_sem] theorem ty_685 : isIf Tryd.prog 137 = false := by kernel_rfl
@[go_sem] theorem ty_686 : (Tryd.prog.underlying 138).isSome = true := by kernel_rfl
@[go_sem] theorem ty_687 : tyI Tryd.prog 138 = some (true, 3) := by kernel_rfl
@[go_sem] theorem ty_688 : arI Tryd.prog 138 = some (3, 1, false) := by kernel_rfl
@[go_sem] theorem ty_689 : bdI Tryd.prog 138 = some ([.d (.str []), .d (.str []), .d (.str [])], [(0, 1), (1, 1), (2, 1)]) := by kernel_rfl
@[go_sem] theorem ty_690 : zI Tryd.prog 138 = some [.d (.str []), .d (.str []), .d (.str [])] := by kernel_rfl
@[go_sem] theorem ty_691 : isIf Tryd.prog 138 = false := by kernel_rfl
@[go_sem] theorem ty_692 : (Tryd.prog.underlying 139).isSome = true := by kernel_rfl
@[go_sem] theorem ty_693 : tyI Tryd.prog 139 = some (false, 1) := by kernel_rfl
@[go_sem] theorem ty_694 : zI Tryd.prog 139 = some [.nilf] := by kernel_rfl
@[go_sem] theorem ty_695 : isIf Tryd.prog 139 = false := by kernel_rfl
@[go_sem] theorem ty_696 : (Tryd.prog.underlying 140).isSome = true := by kernel_rfl
@[go_sem] theorem ty_697 : tyI Tryd.prog 140 = some (false, 1) := by kernel_rfl
@[go_sem] theorem ty_698 : intI Tryd.prog 140 = some .u64 := by kernel_rfl
@[go_sem] theorem ty_699 : zI Tryd.prog 140 = some [.d (.int .u64 0)] := by kernel_rfl
@[go_sem] theorem ty_700 : isIf Tryd.prog 140 = false := by kernel_rfl
@[go_sem] theorem ty_701 : (Tryd.prog.underlying 141).isSome = true := by kernel_rfl
@[go_sem] theorem ty_702 : tyI Tryd.prog 141 = some (false, 1) := by kernel_rfl
@[go_sem] theorem ty_703 : zI Tryd.prog 141 = some [.nilf] := by kernel_rfl
@[go_sem] theorem ty_704 : isIf Tryd.prog 141 = false := by kernel_rfl
@[go_sem] theorem ty_705 : (Tryd.prog.underlying 142).isSome = true := by kernel_rfl
@[go_sem] theorem ty_706 : tyI Tryd.prog 142 = some (false, 1) := by kernel_rfl
@[go_sem] theorem ty_707 : isIf Tryd.prog 142 = false := by kernel_rfl
@[go_sem] theorem ty_708 : (Tryd.prog.underlying 143).isSome = true := by kernel_rfl
@[go_sem] theorem ty_709 : tyI Tryd.prog 143 = some (false, 1) := by kernel_rfl
@[go_sem] theorem ty_710 : zI Tryd.prog 143 = some [.nilf] := by kernel_rfl
@[go_sem] theorem ty_711 : isIf Tryd.prog 143 = false := by kernel_rfl
@[go_sem] theorem ty_712 : (Tryd.prog.underlying 144).isSome = true := by kernel_rfl
@[go_sem] theorem ty_713 : tyI Tryd.prog 144 = some (false, 1) := by kernel_rfl
@[go_sem] theorem ty_714 : zI Tryd.prog 144 = some [.nilf] := by kernel_rfl
@[go_sem] theorem ty_715 : isIf Tryd.prog 144 = false := by kernel_rfl
@[go_sem] theorem ty_716 : (Tryd.prog.underlying 145).isSome = true := by kernel_rfl
@[go_sem] theorem ty_717 : tyI Tryd.prog 145 = some (false, 1) := by kernel_rfl
@[go_sem] theorem ty_718 : zI Tryd.prog 145 = some [.nilf] := by kernel_rfl
@[go_sem] theorem ty_719 : isIf Tryd.prog 145 = false := by kernel_rfl
@[go_sem] theorem ty_720 : (Tryd.prog.underlying 146).isSome = true := by kernel_rfl
@[go_sem] theorem ty_721 : tyI Tryd.prog 146 = some (false, 1) := by kernel_rfl
@[go_sem] theorem ty_722 : zI Tryd.prog 146 = some [.nilf] := by kernel_rfl
@[go_sem] theorem ty_723 : isIf Tryd.prog 146 = false := by kernel_rfl
@[go_sem] theorem ty_724 : (Tryd.prog.underlying 147).isSome = true := by kernel_rfl
@[go_sem] theorem ty_725 : tyI Tryd.prog 147 = some (false, 1) := by kernel_rfl
@[go_sem] theorem ty_726 : zI Tryd.prog 147 = some [.nilf] := by kernel_rfl
@[go_sem] theorem ty_727 : isIf Tryd.prog 147 = false := by kernel_rfl
@[go_sem] theorem ty_728 : (Tryd.prog.underlying 148).isSome = true := by kernel_rfl
@[go_sem] theorem ty_729 : tyI Tryd.prog 148 = some (false, 1) := by kernel_rfl
@[go_sem] theorem ty_730 : zI Tryd.prog 148 = some [.nilf] := by kernel_rfl
@[go_sem] theorem ty_731 : isIf Tryd.prog 148 = false := by kernel_rfl
@[go_sem] theorem ty_732 : (Tryd.prog.underlying 149).isSome = true := by kernel_rfl
@[go_sem] theorem ty_733 : tyI Tryd.prog 149 = some (false, 1) := by kernel_rfl
@[go_sem] theorem ty_734 : zI Tryd.prog 149 = some [.nilf] := by kernel_rfl
@[go_sem] theorem ty_735 : isIf Tryd.prog 149 = false := by kernel_rfl
@[go_sem] theorem ty_736 : (Tryd.prog.underlying 150).isSome = true := by kernel_rfl
@[go_sem] theorem ty_737 : tyI Tryd.prog 150 = some (true, 256) := by kernel_rfl
@[go_sem] theorem ty_738 : arI Tryd.prog 150 = some (256, 1, false) := by kernel_rfl
@[go_sem] theorem ty_739 : isIf Tryd.prog 150 = false := by kernel_rfl
@[go_sem] theorem ty_740 : (Tryd.prog.underlying 151).isSome = true := by kernel_rfl
@[go_sem] theorem ty_741 : tyI Tryd.prog 151 = some (true, 256) := by kernel_rfl
@[go_sem] theorem ty_742 : arI Tryd.prog 151 = some (256, 1, false) := by kernel_rfl
@[go_sem] theorem ty_743 : isIf Tryd.prog 151 = false := by kernel_rfl
@[go_sem] theorem ty_744 : (Tryd.prog.underlying 152).isSome = true := by kernel_rfl
@[go_sem] theorem ty_745 : tyI Tryd.prog 152 = some (false, 1) := by kernel_rfl
@[go_sem] theorem ty_746 : isIf Tryd.prog 152 = false := by kernel_rfl
@[go_sem] theorem ty_747 : (Tryd.prog.underlying 153).isSome = true := by kernel_rfl
@[go_sem] theorem ty_748 : tyI Tryd.prog 153 = some (false, 1) := by kernel_rfl
@[go_sem] theorem ty_749 : zI Tryd.prog 153 = some [.nilf] := by kernel_rfl
@[go_sem] theorem ty_750 : isIf Tryd.prog 153 = false := by kernel_rfl
@[go_sem] theorem ty_751 : (Tryd.prog.underlying 154).isSome = true := by kernel_rfl
@[go_sem] theorem ty_752 : tyI Tryd.prog 154 = some (false, 1) := by kernel_rfl
@[go_sem] theorem ty_753 : zI Tryd.prog 154 = some [.nilf] := by kernel_rfl
@[go_sem] theorem ty_754 : isIf Tryd.prog 154 = false := by kernel_rfl
@[go_sem] theorem ty_755 : (Tryd.prog.underlying 155).isSome = true := by kernel_rfl
@[go_sem] theorem ty_756 : tyI Tryd.prog 155 = some (false, 1) := by kernel_rfl
@[go_sem] theorem ty_757 : zI Tryd.prog 155 = some [.nilp] := by kernel_rfl
@[go_sem] theorem ty_758 : isIf Tryd.prog 155 = false := by kernel_rfl
@[go_sem] theorem ty_759 : (Tryd.prog.underlying 156).isSome = true := by kernel_rfl
@[go_sem] theorem ty_760 : tyI Tryd.prog 156 = some (false, 1) := by kernel_rfl
@[go_sem] theorem ty_761 : zI Tryd.prog 156 = some [.nilf] := by kernel_rfl
@[go_sem] theorem ty_762 : isIf Tryd.prog 156 = false := by kernel_rfl
@[go_sem] theorem ty_763 : (Tryd.prog.underlying 157).isSome = true := by kernel_rfl
@[go_sem] theorem ty_764 : tyI Tryd.prog 157 = some (false, 1) := by kernel_rfl
@[go_sem] theorem ty_765 : zI Tryd.prog 157 = some [.nilp] := by kernel_rfl
@[go_sem] theorem ty_766 : isIf Tryd.prog 157 = false := by kernel_rfl
@[go_sem] theorem ty_767 : (Tryd.prog.underlying 158).isSome = true := by kernel_rfl
@[go_sem] theorem ty_768 : tyI Tryd.prog 158 = some (true, 2) := by kernel_rfl
@[go_sem] theorem ty_769 : fdI Tryd.prog 158 0 = some (0, 1, false) := by kernel_rfl
@[go_sem] theorem ty_770 : fdI Tryd.prog 158 1 = some (1, 1, false) := by kernel_rfl
@[go_sem] theorem ty_771 : bdI Tryd.prog 158 = some ([.nilp, .nils], [(0, 1), (1, 1)]) := by kernel_rfl
@[go_sem] theorem ty_772 : zI Tryd.prog 158 = some [.nilp, .nils] := by kernel_rfl
@[go_sem] theorem ty_773 : isIf Tryd.prog 158 = false := by kernel_rfl
@[go_sem] theorem ty_774 : (Tryd.prog.underlying 159).isSome = true := by kernel_rfl
@[go_sem] theorem ty_775 : tyI Tryd.prog 159 = some (true, 2) := by kernel_rfl
@[go_sem] theorem ty_776 : fdI Tryd.prog 159 0 = some (0, 1, false) := by kernel_rfl
@[go_sem] theorem ty_777 : fdI Tryd.prog 159 1 = some (1, 1, false) := by kernel_rfl
@[go_sem] theorem ty_778 : bdI Tryd.prog 159 = some ([.nilp, .nils], [(0, 1), (1, 1)]) := by kernel_rfl
@[go_sem] theorem ty_779 : zI Tryd.prog 159 = some [.nilp, .nils] := by kernel_rfl
@[go_sem] theorem ty_780 : isIf Tryd.prog 159 = false := by kernel_rfl
@[go_sem] theorem ty_781 : (Tryd.prog.underlying 160).isSome = true := by kernel_rfl
@[go_sem] theorem ty_782 : tyI Tryd.prog 160 = some (false, 1) := by kernel_rfl
@[go_sem] theorem ty_783 : zI Tryd.prog 160 = some [.nili] := by kernel_rfl
@[go_sem] theorem ty_784 : isIf Tryd.prog 160 = true := by kernel_rfl
@[go_sem] theorem ty_785 : (Tryd.prog.underlying 161).isSome = true := by kernel_rfl
@[go_sem] theorem ty_786 : tyI Tryd.prog 161 = some (false, 1) := by kernel_rfl
@[go_sem] theorem ty_787 : zI Tryd.prog 161 = some [.nili] := by kernel_rfl
@[go_sem] theorem ty_788 : isIf Tryd.prog 161 = true := by kernel_rfl
@[go_sem] theorem ty_789 : (Tryd.prog.underlying 162).isSome = true := by kernel_rfl
@[go_sem] theorem ty_790 : tyI Tryd.prog 162 = some (false, 1) := by kernel_rfl
@[go_sem] theorem ty_791 : isIf Tryd.prog 162 = false := by kernel_rfl
@[go_sem] theorem ty_792 : (Tryd.prog.underlying 163).isSome = true := by kernel_rfl
@[go_sem] theorem ty_793 : tyI Tryd.prog 163 = some (false, 1) := by kernel_rfl
@[go_sem] theorem ty_794 : zI Tryd.prog 163 = some [.nilf] := by kernel_rfl
@[go_sem] theorem ty_795 : isIf Tryd.prog 163 = false := by kernel_rfl
@[go_sem] theorem ty_796 : (Tryd.prog.underlying 164).isSome = true := by kernel_rfl
@[go_sem] theorem ty_797 : tyI Tryd.prog 164 = some (false, 1) := by kernel_rfl
@[go_sem] theorem ty_798 : slI Tryd.prog 164 = some (168, 3, 3) := by kernel_rfl
@[go_sem] theorem ty_799 : zI Tryd.prog 164 = some [.nils] := by kernel_rfl
@[go_sem] theorem ty_800 : isIf Tryd.prog 164 = false := by kernel_rfl
@[go_sem] theorem ty_801 : isBytes Tryd.prog 164 = false := by kernel_rfl
@[go_sem] theorem ty_802 : isSl Tryd.prog 164 = true := by kernel_rfl
@[go_sem] theorem ty_803 : (Tryd.prog.underlying 165).isSome = true := by kernel_rfl
@[go_sem] theorem ty_804 : tyI Tryd.prog 165 = some (false, 1) := by kernel_rfl
@[go_sem] theorem ty_805 : zI Tryd.prog 165 = some [.nilf] := by kernel_rfl
@[go_sem] theorem ty_806 : isIf Tryd.prog 165 = false := by kernel_rfl
@[go_sem] theorem ty_807 : (Tryd.prog.underlying 166).isSome = true := by kernel_rfl
@[go_sem] theorem ty_808 : tyI Tryd.prog 166 = some (false, 1) := by kernel_rfl
@[go_sem] theorem ty_809 : zI Tryd.prog 166 = some [.nilf] := by kernel_rfl
@[go_sem] theorem ty_810 : isIf Tryd.prog 166 = false := by kernel_rfl
@[go_sem] theorem ty_811 : (Tryd.prog.underlying 167).isSome = true := by kernel_rfl
@[go_sem] theorem ty_812 : tyI Tryd.prog 167 = some (true, 3) := by kernel_rfl
@[go_sem] theorem ty_813 : fdI Tryd.prog 167 0 = some (0, 1, false) := by kernel_rfl
@[go_sem] theorem ty_814 : fdI Tryd.prog 167 1 = some (1, 1, false) := by kernel_rfl
@[go_sem] theorem ty_815 : fdI Tryd.prog 167 2 = some (2, 1, false) := by kernel_rfl
@[go_sem] theorem ty_816 : bdI Tryd.prog 167 = some ([.d (.int .u8 0), .d (.bool false), .d (.bool false)], [(0, 1), (1, 1), (2, 1)]) := by kernel_rfl
@[go_sem] theorem ty_817 : zI Tryd.prog 167 = some [.d (.int .u8 0), .d (.bool false), .d (.bool false)] := by kernel_rfl
@[go_sem] theorem ty_818 : eqI Tryd.prog 167 = some [1, 2, 2] := by kernel_rfl
@[go_sem] theorem ty_819 : isIf Tryd.prog 167 = false := by kernel_rfl
@[go_sem] theorem ty_820 : (Tryd.prog.underlying 168).isSome = true := by kernel_rfl
@[go_sem] theorem ty_821 : tyI Tryd.prog 168 = some (true, 3) := by kernel_rfl
@[go_sem] theorem ty_822 : fdI Tryd.prog 168 0 = some (0, 1, false) := by kernel_rfl
@[go_sem] theorem ty_823 : fdI Tryd.prog 168 1 = some (1, 1, false) := by kernel_rfl
@[go_sem] theorem ty_824 : fdI Tryd.prog 168 2 = some (2, 1, false) := by kernel_rfl
@[go_sem] theorem ty_825 : bdI Tryd.prog 168 = some ([.d (.int .u8 0), .d (.bool false), .d (.bool false)], [(0, 1), (1, 1), (2, 1)]) := by kernel_rfl
@[go_sem] theorem ty_826 : zI Tryd.prog 168 = some [.d (.int .u8 0), .d (.bool false), .d (.bool false)] := by kernel_rfl
@[go_sem] theorem ty_827 : eqI Tryd.prog 168 = some [1, 2, 2] := by kernel_rfl
@[go_sem] theorem ty_828 : isIf Tryd.prog 168 = false := by kernel_rfl
@[go_sem] theorem ty_829 : (Tryd.prog.underlying 169).isSome = true := by kernel_rfl
@[go_sem] theorem ty_830 : tyI Tryd.prog 169 = some (false, 1) := by kernel_rfl
@[go_sem] theorem ty_831 : zI Tryd.prog 169 = some [.nilf] := by kernel_rfl
@[go_sem] theorem ty_832 : isIf Tryd.prog 169 = false := by kernel_rfl
@[go_sem] theorem ty_833 : (Tryd.prog.underlying 170).isSome = true := by kernel_rfl
@[go_sem] theorem ty_834 : tyI Tryd.prog 170 = some (false, 1) := by kernel_rfl
@[go_sem] theorem ty_835 : zI Tryd.prog 170 = some [.nilf] := by kernel_rfl
@[go_sem] theorem ty_836 : isIf Tryd.prog 170 = false := by kernel_rfl
@[go_sem] theorem ty_837 : (Tryd.prog.underlying 171).isSome = true := by kernel_rfl
@[go_sem] theorem ty_838 : tyI Tryd.prog 171 = some (false, 1) := by kernel_rfl
@[go_sem] theorem ty_839 : slI Tryd.prog 171 = some (177, 4, 24) := by kernel_rfl
@[go_sem] theorem ty_840 : zI Tryd.prog 171 = some [.nils] := by kernel_rfl
@[go_sem] theorem ty_841 : isIf Tryd.prog 171 = false := by kernel_rfl
@[go_sem] theorem ty_842 : isBytes Tryd.prog 171 = false := by kernel_rfl
@[go_sem] theorem ty_843 : isSl Tryd.prog 171 = true := by kernel_rfl
@[go_sem] theorem ty_844 : (Tryd.prog.underlying 172).isSome = true := by kernel_rfl
@[go_sem] theorem ty_845 : tyI Tryd.prog 172 = some (false, 1) := by kernel_rfl
@[go_sem] theorem ty_846 : isIf Tryd.prog 172 = false := by kernel_rfl
@[go_sem] theorem ty_847 : (Tryd.prog.underlying 173).isSome = true := by kernel_rfl
@[go_sem] theorem ty_848 : tyI Tryd.prog 173 = some (false, 1) := by kernel_rfl
@[go_sem] theorem ty_849 : zI Tryd.prog 173 = some [.nilf] := by kernel_rfl
@[go_sem] theorem ty_850 : isIf Tryd.prog 173 = false := by kernel_rfl
@[go_sem] theorem ty_851 : (Tryd.prog.underlying 174).isSome = true := by kernel_rfl
@[go_sem] theorem ty_852 : tyI Tryd.prog 174 = some (false, 1) := by kernel_rfl
@[go_sem] theorem ty_853 : isIf Tryd.prog 174 = false := by kernel_rfl
@[go_sem] theorem ty_854 : (Tryd.prog.underlying 175).isSome = true := by kernel_rfl
@[go_sem] theorem ty_855 : tyI Tryd.prog 175 = some (false, 1) := by kernel_rfl
@[go_sem] theorem ty_856 : zI Tryd.prog 175 = some [.nilf] := by kernel_rfl
@[go_sem] theorem ty_857 : isIf Tryd.prog 175 = false := by kernel_rfl
@[go_sem] theorem ty_858 : (Tryd.prog.underlying 176).isSome = true := by kernel_rfl
@[go_sem] theorem ty_859 : tyI Tryd.prog 176 = some (true, 4) := by kernel_rfl
@[go_sem] theorem ty_860 : fdI Tryd.prog 176 0 = some (0, 1, false) := by kernel_rfl
@[go_sem] theorem ty_861 : fdI Tryd.prog 176 1 = some (1, 1, false) := by kernel_rfl
@[go_sem] theorem ty_862 : fdI Tryd.prog 176 2 = some (2, 1, false) := by kernel_rfl
@[go_sem] theorem ty_863 : fdI Tryd.prog 176 3 = some (3, 1, false) := by kernel_rfl
@[go_sem] theorem ty_864 : bdI Tryd.prog 176 = some ([.d (.str []), .d (.bool false), .d (.bool false), .d (.bool false)], [(0, 1), (1, 1), (2, 1), (3, 1)]) := by kernel_rfl
@[go_sem] theorem ty_865 : zI Tryd.prog 176 = some [.d (.str []), .d (.bool false), .d (.bool false), .d (.bool false)] := by kernel_rfl
@[go_sem] theorem ty_866 : eqI Tryd.prog 176 = some [3, 2, 2, 2] := by kernel_rfl
@[go_sem] theorem ty_867 : isIf Tryd.prog 176 = false := by kernel_rfl
@[go_sem] theorem ty_868 : (Tryd.prog.underlying 177).isSome = true := by kernel_rfl
@[go_sem] theorem ty_869 : tyI Tryd.prog 177 = some (true, 4) := by kernel_rfl
@[go_sem] theorem ty_870 : fdI Tryd.prog 177 0 = some (0, 1, false) := by kernel_rfl
@[go_sem] theorem ty_871 : fdI Tryd.prog 177 1 = some (1, 1, false) := by kernel_rfl
@[go_sem] theorem ty_872 : fdI Tryd.prog 177 2 = some (2, 1, false) := by kernel_rfl
@[go_sem] theorem ty_873 : fdI Tryd.prog 177 3 = some (3, 1, false) := by kernel_rfl
@[go_sem] theorem ty_874 : bdI Tryd.prog 177 = some ([.d (.str []), .d (.bool false), .d (.bool false), .d (.bool false)], [(0, 1), (1, 1), (2, 1), (3, 1)]) := by kernel_rfl
@[go_sem] theorem ty_875 : zI Tryd.prog 177 = some [.d (.str []), .d (.bool false), .d (.bool false), .d (.bool false)] := by kernel_rfl
@[go_sem] theorem ty_876 : eqI Tryd.prog 177 = some [3, 2, 2, 2] := by kernel_rfl
@[go_sem] theorem ty_877 : isIf Tryd.prog 177 = false := by kernel_rfl
@[go_sem] theorem ty_878 : (Tryd.prog.underlying 178).isSome = true := by kernel_rfl
@[go_sem] theorem ty_879 : tyI Tryd.prog 178 = some (false, 1) := by kernel_rfl
@[go_sem] theorem ty_880 : zI Tryd.prog 178 = some [.nilp] := by kernel_rfl
@[go_sem] theorem ty_881 : isIf Tryd.prog 178 = false := by kernel_rfl
@[go_sem] theorem ty_882 : (Tryd.prog.underlying 179).isSome = true := by kernel_rfl
@[go_sem] theorem ty_883 : tyI Tryd.prog 179 = some (true, 2) := by kernel_rfl
@[go_sem] theorem ty_884 : fdI Tryd.prog 179 0 = some (0, 1, false) := by kernel_rfl
@[go_sem] theorem ty_885 : fdI Tryd.prog 179 1 = some (1, 1, false) := by kernel_rfl
@[go_sem] theorem ty_886 : bdI Tryd.prog 179 = some ([.d (.str []), .d (.int .i64 0)], [(0, 1), (1, 1)]) := by kernel_rfl
@[go_sem] theorem ty_887 : zI Tryd.prog 179 = some [.d (.str []), .d (.int .i64 0)] := by kernel_rfl
@[go_sem] theorem ty_888 : eqI Tryd.prog 179 = some [3, 1] := by kernel_rfl
@[go_sem] theorem ty_889 : isIf Tryd.prog 179 = false := by kernel_rfl
@[go_sem] theorem ty_890 : (Tryd.prog.underlying 180).isSome = true := by kernel_rfl
@[go_sem] theorem ty_891 : tyI Tryd.prog 180 = some (true, 2) := by kernel_rfl
@[go_sem] theorem ty_892 : fdI Tryd.prog 180 0 = some (0, 1, false) := by kernel_rfl
@[go_sem] theorem ty_893 : fdI Tryd.prog 180 1 = some (1, 1, false) := by kernel_rfl
@[go_sem] theorem ty_894 : bdI Tryd.prog 180 = some ([.d (.str []), .d (.int .i64 0)], [(0, 1), (1, 1)]) := by kernel_rfl
@[go_sem] theorem ty_895 : zI Tryd.prog 180 = some [.d (.str []), .d (.int .i64 0)] := by kernel_rfl
@[go_sem] theorem ty_896 : eqI Tryd.prog 180 = some [3, 1] := by kernel_rfl
@[go_sem] theorem ty_897 : isIf Tryd.prog 180 = false := by kernel_rfl
@[go_sem] theorem ty_898 : (Tryd.prog.underlying 181).isSome = true := by kernel_rfl
@[go_sem] theorem ty_899 : tyI Tryd.prog 181 = some (false, 1) := by kernel_rfl
@[go_sem] theorem ty_900 : zI Tryd.prog 181 = some [.nilf] := by kernel_rfl
@[go_sem] theorem ty_901 : isIf Tryd.prog 181 = false := by kernel_rfl
@[go_sem] theorem ty_902 : (Tryd.prog.underlying 182).isSome = true := by kernel_rfl
@[go_sem] theorem ty_903 : tyI Tryd.prog 182 = some (false, 1) := by kernel_rfl
@[go_sem] theorem ty_904 : zI Tryd.prog 182 = some [.nilf] := by kernel_rfl
@[go_sem] theorem ty_905 : isIf Tryd.prog 182 = false := by kernel_rfl
@[go_sem] theorem ty_906 : (Tryd.prog.underlying 183).isSome = true := by kernel_rfl
@[go_sem] theorem ty_907 : tyI Tryd.prog 183 = some (false, 1) := by kernel_rfl
@[go_sem] theorem ty_908 : zI Tryd.prog 183 = some [.nilf] := by kernel_rfl
@[go_sem] theorem ty_909 : isIf Tryd.prog 183 = false := by kernel_rfl
@[go_sem] theorem ty_910 : (Tryd.prog.underlying 184).isSome = true := by kernel_rfl
@[go_sem] theorem ty_911 : tyI Tryd.prog 184 = some (false, 1) := by kernel_rfl
@[go_sem] theorem ty_912 : zI Tryd.prog 184 = some [.nilp] := by kernel_rfl
@[go_sem] theorem ty_913 : isIf Tryd.prog 184 = false := by kernel_rfl
@[go_sem] theorem ty_914 : (Tryd.prog.underlying 185).isSome = true := by kernel_rfl
@[go_sem] theorem ty_915 : tyI Tryd.prog 185 = some (false, 1) := by kernel_rfl
@[go_sem] theorem ty_916 : isIf Tryd.prog 185 = false := by kernel_rfl
@[go_sem] theorem ty_917 : (Tryd.prog.underlying 186).isSome = true := by kernel_rfl
@[go_sem] theorem ty_918 : tyI Tryd.prog 186 = some (false, 1) := by kernel_rfl
@[go_sem] theorem ty_919 : zI Tryd.prog 186 = some [.nilf] := by kernel_rfl
@[go_sem] theorem ty_920 : isIf Tryd.prog 186 = false := by kernel_rfl
@[go_sem] theorem ty_921 : (Tryd.prog.underlying 187).isSome = true := by kernel_rfl
@[go_sem] theorem ty_922 : tyI Tryd.prog 187 = some (false, 1) := by kernel_rfl
@[go_sem] theorem ty_923 : zI Tryd.prog 187 = some [.nilf] := by kernel_rfl
@[go_sem] theorem ty_924 : isIf Tryd.prog 187 = false := by kernel_rfl
@[go_sem] theorem ty_925 : (Tryd.prog.underlying 188).isSome = true := by kernel_rfl
@[go_sem] theorem ty_926 : tyI Tryd.prog 188 = some (false, 1) := by kernel_rfl
@[go_sem] theorem ty_927 : zI Tryd.prog 188 = some [.nilp] := by kernel_rfl
@[go_sem] theorem ty_928 : isIf Tryd.prog 188 = false := by kernel_rfl
@[go_sem] theorem ty_929 : (Tryd.prog.underlying 189).isSome = true := by kernel_rfl
@[go_sem] theorem ty_930 : tyI Tryd.prog 189 = some (false, 1) := by kernel_rfl
@[go_sem] theorem ty_931 : zI Tryd.prog 189 = some [.nilf] := by kernel_rfl
@[go_sem] theorem ty_932 : isIf Tryd.prog 189 = false := by kernel_rfl
@[go_sem] theorem ty_933 : (Tryd.prog.underlying 190).isSome = true := by kernel_rfl
@[go_sem] theorem ty_934 : tyI Tryd.prog 190 = some (false, 1) := by kernel_rfl
@[go_sem] theorem ty_935 : zI Tryd.prog 190 = some [.nilf] := by kernel_rfl
@[go_sem] theorem ty_936 : isIf Tryd.prog 190 = false := by kernel_rfl
@[go_sem] theorem ty_937 : (Tryd.prog.underlying 191).isSome = true := by kernel_rfl
@[go_sem] theorem ty_938 : tyI Tryd.prog 191 = some (false, 1) := by kernel_rfl
@[go_sem] theorem ty_939 : zI Tryd.prog 191 = some [.nilf] := by kernel_rfl
@[go_sem] theorem ty_940 : isIf Tryd.prog 191 = false := by kernel_rfl
@[go_sem] theorem ty_941 : (Tryd.prog.underlying 192).isSome = true := by kernel_rfl
@[go_sem] theorem ty_942 : tyI Tryd.prog 192 = some (false, 1) := by kernel_rfl
@[go_sem] theorem ty_943 : zI Tryd.prog 192 = some [.nilf] := by kernel_rfl
@[go_sem] theorem ty_944 : isIf Tryd.prog 192 = false := by kernel_rfl
@[go_sem] theorem ty_945 : (Tryd.prog.underlying 193).isSome = true := by kernel_rfl
@[go_sem] theorem ty_946 : tyI Tryd.prog 193 = some (false, 1) := by kernel_rfl
@[go_sem] theorem ty_947 : zI Tryd.prog 193 = some [.nilf] := by kernel_rfl
@[go_sem] theorem ty_948 : isIf Tryd.prog 193 = false := by kernel_rfl
@[go_sem] theorem ty_949 : (Tryd.prog.underlying 194).isSome = true := by kernel_rfl
@[go_sem] theorem ty_950 : tyI Tryd.prog 194 = some (false, 1) := by kernel_rfl
@[go_sem] theorem ty_951 : zI Tryd.prog 194 = some [.nilf] := by kernel_rfl
@[go_sem] theorem ty_952 : isIf Tryd.prog 194 = false := by kernel_rfl
@[go_sem] theorem ty_953 : (Tryd.prog.underlying 195).isSome = true := by kernel_rfl
@[go_sem] theorem ty_954 : tyI Tryd.prog 195 = some (false, 1) := by kernel_rfl
@[go_sem] theorem ty_955 : zI Tryd.prog 195 = some [.nilp] := by kernel_rfl
@[go_sem] theorem ty_956 : isIf Tryd.prog 195 = false := by kernel_rfl
@[go_sem] theorem ty_957 : (Tryd.prog.underlying 196).isSome = true := by kernel_rfl
@[go_sem] theorem ty_958 : tyI Tryd.prog 196 = some (false, 1) := by kernel_rfl
@[go_sem] theorem ty_959 : zI Tryd.prog 196 = some [.nilf] := by kernel_rfl
@[go_sem] theorem ty_960 : isIf Tryd.prog 196 = false := by kernel_rfl
@[go_sem] theorem ty_961 : (Tryd.prog.underlying 197).isSome = true := by kernel_rfl
@[go_sem] theorem ty_962 : tyI Tryd.prog 197 = some (false, 1) := by kernel_rfl
@[go_sem] theorem ty_963 : zI Tryd.prog 197 = some [.nilf] := by kernel_rfl
@[go_sem] theorem ty_964 : isIf Tryd.prog 197 = false := by kernel_rfl
@[go_sem] theorem ty_965 : (Tryd.prog.underlying 198).isSome = true := by kernel_rfl
@[go_sem] theorem ty_966 : tyI Tryd.prog 198 = some (false, 1) := by kernel_rfl
@[go_sem] theorem ty_967 : intI Tryd.prog 198 = some .u32 := by kernel_rfl
@[go_sem] theorem ty_968 : zI Tryd.prog 198 = some [.d (.int .u32 0)] := by kernel_rfl
@[go_sem] theorem ty_969 : isIf Tryd.prog 198 = false := by kernel_rfl
@[go_sem] theorem ty_970 : (Tryd.prog.underlying 199).isSome = true := by kernel_rfl
@[go_sem] theorem ty_971 : tyI Tryd.prog 199 = some (false, 1) := by kernel_rfl
@[go_sem] theorem ty_972 : isIf Tryd.prog 199 = false := by kernel_rfl
@[go_sem] theorem ty_973 : (Tryd.prog.underlying 200).isSome = true := by kernel_rfl
@[go_sem] theorem ty_974 : tyI Tryd.prog 200 = some (false, 1) := by kernel_rfl
@[go_sem] theorem ty_975 : zI Tryd.prog 200 = some [.nilf] := by kernel_rfl
@[go_sem] theorem ty_976 : isIf Tryd.prog 200 = false := by kernel_rfl
@[go_sem] theorem ty_977 : (Tryd.prog.underlying 201).isSome = true := by kernel_rfl
@[go_sem] theorem ty_978 : tyI Tryd.prog 201 = some (true, 256) := by kernel_rfl
@[go_sem] theorem ty_979 : arI Tryd.prog 201 = some (256, 1, false) := by kernel_rfl
@[go_sem] theorem ty_980 : isIf Tryd.prog 201 = false := by kernel_rfl
@[go_sem] theorem ty_981 : (Tryd.prog.underlying 202).isSome = true := by kernel_rfl
@[go_sem] theorem ty_982 : tyI Tryd.prog 202 = some (true, 2) := by kernel_rfl
@[go_sem] theorem ty_983 : fdI Tryd.prog 202 0 = some (0, 1, false) := by kernel_rfl
@[go_sem] theorem ty_984 : fdI Tryd.prog 202 1 = some (1, 1, false) := by kernel_rfl
@[go_sem] theorem ty_985 : bdI Tryd.prog 202 = some ([.d (.int .u8 0), .d (.int .u8 0)], [(0, 1), (1, 1)]) := by kernel_rfl
@[go_sem] theorem ty_986 : zI Tryd.prog 202 = some [.d (.int .u8 0), .d (.int .u8 0)] := by kernel_rfl
@[go_sem] theorem ty_987 : eqI Tryd.prog 202 = some [1, 1] := by kernel_rfl
@[go_sem] theorem ty_988 : isIf Tryd.prog 202 = false := by kernel_rfl
@[go_sem] theorem ty_989 : (Tryd.prog.underlying 203).isSome = true := by kernel_rfl
@[go_sem] theorem ty_990 : tyI Tryd.prog 203 = some (true, 2) := by kernel_rfl
@[go_sem] theorem ty_991 : fdI Tryd.prog 203 0 = some (0, 1, false) := by kernel_rfl
@[go_sem] theorem ty_992 : fdI Tryd.prog 203 1 = some (1, 1, false) := by kernel_rfl
@[go_sem] theorem ty_993 : bdI Tryd.prog 203 = some ([.d (.int .u8 0), .d (.int .u8 0)], [(0, 1), (1, 1)]) := by kernel_rfl
@[go_sem] theorem ty_994 : zI Tryd.prog 203 = some [.d (.int .u8 0), .d (.int .u8 0)] := by kernel_rfl
@[go_sem] theorem ty_995 : eqI Tryd.prog 203 = some [1, 1] := by kernel_rfl
@[go_sem] theorem ty_996 : isIf Tryd.prog 203 = false := by kernel_rfl
@[go_sem] theorem ty_997 : (Tryd.prog.underlying 204).isSome = true := by kernel_rfl
@[go_sem] theorem ty_998 : tyI Tryd.prog 204 = some (true, 32) := by kernel_rfl
@[go_sem] theorem ty_999 : arI Tryd.prog 204 = some (16, 2, true) := by kernel_rfl
@[go_sem] theorem ty_1000 : bdI Tryd.prog 204 = some ([.d (.int .u8 0), .d (.int .u8 0), .d (.int .u8 0), .d (.int .u8 0), .d (.int .u8 0), .d (.int .u8 0), .d (.int .u8 0), .d (.int .u8 0), .d (.int .u8 0), .d (.int .u8 0), .d (.int .u8 0), .d (.int .u8 0), .d (.int .u8 0), .d (.int .u8 0), .d (.int .u8 0), .d (.int .u8 0), .d (.int .u8 0), .d (.int .u8 0), .d (.int .u8 0), .d (.int .u8 0), .d (.int .u8 0), .d (.int .u8 0), .d (.int .u8 0), .d (.int .u8 0), .d (.int .u8 0), .d (.int .u8 0), .d (.int .u8 0), .d (.int .u8 0), .d (.int .u8 0), .d (.int .u8 0), .d (.int .u8 0), .d (.int .u8 0)], [(0, 2), (2, 2), (4, 2), (6, 2), (8, 2), (10, 2), (12, 2), (14, 2), (16, 2), (18, 2), (20, 2), (22, 2), (24, 2), (26, 2), (28, 2), (30, 2)]) := by kernel_rfl
@[go_sem] theorem ty_1001 : zI Tryd.prog 204 = some [.d (.int .u8 0), .d (.int .u8 0), .d (.int .u8 0), .d (.int .u8 0), .d (.int .u8 0), .d (.int .u8 0), .d (.int .u8 0), .d (.int .u8 0), .d (.int .u8 0), .d (.int .u8 0), .d (.int .u8 0), .d (.int .u8 0), .d (.int .u8 0), .d (.int .u8 0), .d (.int .u8 0), .d (.int .u8 0), .d (.int .u8 0), .d (.int .u8 0), .d (.int .u8 0), .d (.int .u8 0), .d (.int .u8 0), .d (.int .u8 0), .d (.int .u8 0), .d (.int .u8 0), .d (.int .u8 0), .d (.int .u8 0), .d (.int .u8 0), .d (.int .u8 0), .d (.int .u8 0), .d (.int .u8 0), .d (.int .u8 0), .d (.int .u8 0)] := by kernel_rfl
@[go_sem] theorem ty_1002 : isIf Tryd.prog 204 = false := by kernel_rfl
@[go_sem] theorem ty_1003 : (Tryd.prog.underlying 205).isSome = true := by kernel_rfl
@[go_sem] theorem ty_1004 : tyI Tryd.prog 205 = some (false, 1) := by kernel_rfl
@[go_sem] theorem ty_1005 : zI Tryd.prog 205 = some [.nilf] := by kernel_rfl
@[go_sem] theorem ty_1006 : isIf Tryd.prog 205 = false := by kernel_rfl
@[go_sem] theorem ty_1007 : (Tryd.prog.underlying 206).isSome = true := by kernel_rfl
@[go_sem] theorem ty_1008 : tyI Tryd.prog 206 = some (false, 1) := by kernel_rfl
@[go_sem] theorem ty_1009 : zI Tryd.prog 206 = some [.nilf] := by kernel_rfl
@[go_sem] theorem ty_1010 : isIf Tryd.prog 206 = false := by kernel_rfl
@[go_sem] theorem ty_1011 : (Tryd.prog.underlying 207).isSome = true := by kernel_rfl
@[go_sem] theorem ty_1012 : tyI Tryd.prog 207 = some (true, 4) := by kernel_rfl
@[go_sem] theorem ty_1013 : fdI Tryd.prog 207 0 = some (0, 1, false) := by kernel_rfl
@[go_sem] theorem ty_1014 : fdI Tryd.prog 207 1 = some (1, 1, false) := by kernel_rfl
@[go_sem] theorem ty_1015 : fdI Tryd.prog 207 2 = some (2, 1, false) := by kernel_rfl
@[go_sem] theorem ty_1016 : fdI Tryd.prog 207 3 = some (3, 1, false) := by kernel_rfl
@[go_sem] theorem ty_1017 : bdI Tryd.prog 207 = some ([.nilp, .nilp, .nilp, .d (.str [])], [(0, 1), (1, 1), (2, 1), (3, 1)]) := by kernel_rfl
@[go_sem] theorem ty_1018 : zI Tryd.prog 207 = some [.nilp, .nilp, .nilp, .d (.str [])] := by kernel_rfl
@[go_sem] theorem ty_1019 : isIf Tryd.prog 207 = false := by kernel_rfl
@[go_sem] theorem ty_1020 : (Tryd.prog.underlying 208).isSome = true := by kernel_rfl
@[go_sem] theorem ty_1021 : tyI Tryd.prog 208 = some (true, 4) := by kernel_rfl
@[go_sem] theorem ty_1022 : fdI Tryd.prog 208 0 = some (0, 1, false) := by kernel_rfl
@[go_sem] theorem ty_1023 : fdI Tryd.prog 208 1 = some (1, 1, false) := by kernel_rfl
@[go_sem] theorem ty_1024 : fdI Tryd.prog 208 2 = some (2, 1, false) := by kernel_rfl
@[go_sem] theorem ty_1025 : fdI Tryd.prog 208 3 = some (3, 1, false) := by kernel_rfl
@[go_sem] theorem ty_1026 : bdI Tryd.prog 208 = some ([.nilp, .nilp, .nilp, .d (.str [])], [(0, 1), (1, 1), (2, 1), (3, 1)]) := by kernel_rfl
@[go_sem] theorem ty_1027 : zI Tryd.prog 208 = some [.nilp, .nilp, .nilp, .d (.str [])] := by kernel_rfl
@[go_sem] theorem ty_1028 : isIf Tryd.prog 208 = false := by kernel_rfl
@[go_sem] theorem ty_1029 : (Tryd.prog.underlying 209).isSome = true := by kernel_rfl
@[go_sem] theorem ty_1030 : tyI Tryd.prog 209 = some (true, 0) := by kernel_rfl
@[go_sem] theorem ty_1031 : arI Tryd.prog 209 = some (0, 1, false) := by kernel_rfl
@[go_sem] theorem ty_1032 : bdI Tryd.prog 209 = some ([], []) := by kernel_rfl
@[go_sem] theorem ty_1033 : zI Tryd.prog 209 = some [] := by kernel_rfl
@[go_sem] theorem ty_1034 : isIf Tryd.prog 209 = false := by kernel_rfl
@[go_sem] theorem ty_1035 : (Tryd.prog.underlying 210).isSome = true := by kernel_rfl
@[go_sem] theorem ty_1036 : tyI Tryd.prog 210 = some (true, 0) := by kernel_rfl
@[go_sem] theorem ty_1037 : bdI Tryd.prog 210 = some ([], [(0, 0)]) := by kernel_rfl
@[go_sem] theorem ty_1038 : zI Tryd.prog 210 = some [] := by kernel_rfl
@[go_sem] theorem ty_1039 : isIf Tryd.prog 210 = false := by kernel_rfl
@[go_sem] theorem ty_1040 : (Tryd.prog.underlying 211).isSome = true := by kernel_rfl
@[go_sem] theorem ty_1041 : tyI Tryd.prog 211 = some (true, 0) := by kernel_rfl
@[go_sem] theorem ty_1042 : bdI Tryd.prog 211 = some ([], [(0, 0)]) := by kernel_rfl
@[go_sem] theorem ty_1043 : zI Tryd.prog 211 = some [] := by kernel_rfl
@[go_sem] theorem ty_1044 : isIf Tryd.prog 211 = false := by kernel_rfl
@[go_sem] theorem ty_1045 : (Tryd.prog.underlying 212).isSome = true := by kernel_rfl
@[go_sem] theorem ty_1046 : tyI Tryd.prog 212 = some (false, 1) := by kernel_rfl
@[go_sem] theorem ty_1047 : zI Tryd.prog 212 = some [.nilf] := by kernel_rfl
@[go_sem] theorem ty_1048 : isIf Tryd.prog 212 = false := by kernel_rfl
@[go_sem] theorem ty_1049 : (Tryd.prog.underlying 213).isSome = true := by kernel_rfl
@[go_sem] theorem ty_1050 : tyI Tryd.prog 213 = some (false, 1) := by kernel_rfl
@[go_sem] theorem ty_1051 : intI Tryd.prog 213 = some .u8 := by kernel_rfl
@[go_sem] theorem ty_1052 : zI Tryd.prog 213 = some [.d (.int .u8 0)] := by kernel_rfl
@[go_sem] theorem ty_1053 : isIf Tryd.prog 213 = false := by kernel_rfl
@[go_sem] theorem ty_1054 : (Tryd.prog.underlying 214).isSome = true := by kernel_rfl
@[go_sem] theorem ty_1055 : tyI Tryd.prog 214 = some (false, 1) := by kernel_rfl
@[go_sem] theorem ty_1056 : intI Tryd.prog 214 = some .u8 := by kernel_rfl
@[go_sem] theorem ty_1057 : zI Tryd.prog 214 = some [.d (.int .u8 0)] := by kernel_rfl
@[go_sem] theorem ty_1058 : isIf Tryd.prog 214 = false := by kernel_rfl
@[go_sem] theorem ty_1059 : (Tryd.prog.underlying 215).isSome = true := by kernel_rfl
@[go_sem] theorem ty_1060 : tyI Tryd.prog 215 = some (false, 1) := by kernel_rfl
@[go_sem] theorem ty_1061 : zI Tryd.prog 215 = some [.nilf] := by kernel_rfl
@[go_sem] theorem ty_1062 : isIf Tryd.prog 215 = false := by kernel_rfl
@[go_sem] theorem ty_1063 : (Tryd.prog.underlying 216).isSome = true := by kernel_rfl
@[go_sem] theorem ty_1064 : tyI Tryd.prog 216 = some (false, 1) := by kernel_rfl
@[go_sem] theorem ty_1065 : intI Tryd.prog 216 = some .i32 := by kernel_rfl
@[go_sem] theorem ty_1066 : zI Tryd.prog 216 = some [.d (.int .i32 0)] := by kernel_rfl
@[go_sem] theorem ty_1067 : isIf Tryd.prog 216 = false := by kernel_rfl
@[go_sem] theorem ty_1068 : (Tryd.prog.underlying 217).isSome = true := by kernel_rfl
@[go_sem] theorem ty_1069 : tyI Tryd.prog 217 = some (false, 1) := by kernel_rfl
@[go_sem] theorem ty_1070 : intI Tryd.prog 217 = some .i32 := by kernel_rfl
@[go_sem] theorem ty_1071 : zI Tryd.prog 217 = some [.d (.int .i32 0)] := by kernel_rfl
@[go_sem] theorem ty_1072 : isIf Tryd.prog 217 = false := by kernel_rfl
@[go_sem] theorem ty_1073 : (Tryd.prog.underlying 218).isSome = true := by kernel_rfl
@[go_sem] theorem ty_1074 : tyI Tryd.prog 218 = some (true, 11) := by kernel_rfl
@[go_sem] theorem ty_1075 : fdI Tryd.prog 218 0 = some (0, 1, false) := by kernel_rfl
@[go_sem] theorem ty_1076 : fdI Tryd.prog 218 1 = some (1, 1, false) := by kernel_rfl
@[go_sem] theorem ty_1077 : fdI Tryd.prog 218 2 = some (2, 1, false) := by kernel_rfl
@[go_sem] theorem ty_1078 : fdI Tryd.prog 218 3 = some (3, 1, false) := by kernel_rfl
@[go_sem] theorem ty_1079 : fdI Tryd.prog 218 4 = some (4, 1, false) := by kernel_rfl
@[go_sem] theorem ty_1080 : fdI Tryd.prog 218 5 = some (5, 1, false) := by kernel_rfl
@[go_sem] theorem ty_1081 : fdI Tryd.prog 218 6 = some (6, 1, false) := by kernel_rfl
@[go_sem] theorem ty_1082 : fdI Tryd.prog 218 7 = some (7, 1, false) := by kernel_rfl
@[go_sem] theorem ty_1083 : fdI Tryd.prog 218 8 = some (8, 1, false) := by kernel_rfl
@[go_sem] theorem ty_1084 : fdI Tryd.prog 218 9 = some (9, 1, false) := by kernel_rfl
@[go_sem] theorem ty_1085 : fdI Tryd.prog 218 10 = some (10, 1, false) := by kernel_rfl
@[go_sem] theorem ty_1086 : bdI Tryd.prog 218 = some ([.d (.int .u64 0), .d (.int .u64 0), .d (.int .u32 0), .d (.int .u8 0), .d (.int .u8 0), .d (.int .u8 0), .d (.int .u8 0), .nilf, .nilp, .d (.int .i32 0), .d (.int .i32 0)], [(0, 1), (1, 1), (2, 1), (3, 1), (4, 1), (5, 1), (6, 1), (7, 1), (8, 1), (9, 1), (10, 1)]) := by kernel_rfl
@[go_sem] theorem ty_1087 : zI Tryd.prog 218 = some [.d (.int .u64 0), .d (.int .u64 0), .d (.int .u32 0), .d (.int .u8 0), .d (.int .u8 0), .d (.int .u8 0), .d (.int .u8 0), .nilf, .nilp, .d (.int .i32 0), .d (.int .i32 0)] := by kernel_rfl
@[go_sem] theorem ty_1088 : isIf Tryd.prog 218 = false := by kernel_rfl
@[go_sem] theorem ty_1089 : (Tryd.prog.underlying 219).isSome = true := by kernel_rfl
@[go_sem] theorem ty_1090 : tyI Tryd.prog 219 = some (true, 11) := by kernel_rfl
@[go_sem] theorem ty_1091 : fdI Tryd.prog 219 0 = some (0, 1, false) := by kernel_rfl
@[go_sem] theorem ty_1092 : fdI Tryd.prog 219 1 = some (1, 1, false) := by kernel_rfl
@[go_sem] theorem ty_1093 : fdI Tryd.prog 219 2 = some (2, 1, false) := by kernel_rfl
@[go_sem] theorem ty_1094 : fdI Tryd.prog 219 3 = some (3, 1, false) := by kernel_rfl
@[go_sem] theorem ty_1095 : fdI Tryd.prog 219 4 = some (4, 1, false) := by kernel_rfl
@[go_sem] theorem ty_1096 : fdI Tryd.prog 219 5 = some (5, 1, false) := by kernel_rfl
@[go_sem] theorem ty_1097 : fdI Tryd.prog 219 6 = some (6, 1, false) := by kernel_rfl
@[go_sem] theorem ty_1098 : fdI Tryd.prog 219 7 = some (7, 1, false) := by kernel_rfl
@[go_sem] theorem ty_1099 : fdI Tryd.prog 219 8 = some (8, 1, false) := by kernel_rfl
@[go_sem] theorem ty_1100 : fdI Tryd.prog 219 9 = some (9, 1, false) := by kernel_rfl
@[go_sem] theorem ty_1101 : fdI Tryd.prog 219 10 = some (10, 1, false) := by kernel_rfl
@[go_sem] theorem ty_1102 : bdI Tryd.prog 219 = some ([.d (.int .u64 0), .d (.int .u64 0), .d (.int .u32 0), .d (.int .u8 0), .d (.int .u8 0), .d (.int .u8 0), .d (.int .u8 0), .nilf, .nilp, .d (.int .i32 0), .d (.int .i32 0)], [(0, 1), (1, 1), (2, 1), (3, 1), (4, 1), (5, 1), (6, 1), (7, 1), (8, 1), (9, 1), (10, 1)]) := by kernel_rfl
@[go_sem] theorem ty_1103 : zI Tryd.prog 219 = some [.d (.int .u64 0), .d (.int .u64 0), .d (.int .u32 0), .d (.int .u8 0), .d (.int .u8 0), .d (.int .u8 0), .d (.int .u8 0), .nilf, .nilp, .d (.int .i32 0), .d (.int .i32 0)] := by kernel_rfl
@[go_sem] theorem ty_1104 : isIf Tryd.prog 219 = false := by kernel_rfl
end Go.Proofs.YthhfbolhlbgbgaaDoor

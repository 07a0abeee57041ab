/- Texts that the laws rest on, packed. -/
import Derived.Lib.IndexBytes
namespace Go.Proofs.YthhfbolhlbgbgaaDoor
def marksL : List UInt8 := [33, 35, 36, 37, 38, 39, 42, 43, 45, 47, 61, 63, 94, 95, 123, 124, 125, 126, 96]
def alnumB (c : UInt8) : Bool := (97 ≤ c.toNat && c.toNat ≤ 122) || (65 ≤ c.toNat && c.toNat ≤ 90) || (48 ≤ c.toNat && c.toNat ≤ 57)
def atomB (c : UInt8) : Bool := alnumB c || decide (0 ≤ Lib.indexByte marksL c)
def dotGo : Bool → List UInt8 → Bool
  | d, [] => !d
  | d, c :: r => if c = 46 then !d && dotGo true r else atomB c && dotGo false r
end Go.Proofs.YthhfbolhlbgbgaaDoor

namespace Go.Proofs.YthhfbolhlbgbgaaDoor
set_option linter.unusedSimpArgs false
set_option linter.unusedVariables false
abbrev Tx := List UInt8
def adrE (l d : Tx) : Int := if dotGo true l = false ∨ dotGo true d = false then 3 else if 99 < l.length + d.length then 1 else 0
theorem adrE_nil_l (d : Tx) : adrE [] d ≠ 0 := by simp [adrE, dotGo]
theorem adrE_nil_d (l : Tx) : adrE l [] ≠ 0 := by simp [adrE, dotGo]
abbrev Ad := Tx × Tx
def blkB (c : UInt8) : Bool := c == 32 || c == 9
def runB (c : UInt8) : Bool := atomB c || c == 46
def skipS : Tx → Tx := List.dropWhile blkB
def runS : Tx → Tx := List.takeWhile runB
def offS : Tx → Tx := List.dropWhile runB
/-- behind something quoted, whose first mark was read -/
def quoS : Tx → Option Tx
  | [] => none
  | [c] => if c = 34 then some [] else none
  | c :: x :: r => if c = 34 then some (x :: r) else if c = 92 then quoS r else quoS (x :: r)
def bareS (l : Tx) : Tx → Option (Ad × Tx)
  | [] => none
  | c :: r => if c = 64 ∧ adrE l (runS r) = 0 then some ((l, runS r), offS r) else none
theorem skip_le (s : Tx) : (skipS s).length ≤ s.length := by unfold skipS; exact (List.dropWhile_sublist _).length_le
theorem off_le (s : Tx) : (offS s).length ≤ s.length := by unfold offS; exact (List.dropWhile_sublist _).length_le
theorem run_off (s : Tx) : runS s ++ offS s = s := List.takeWhile_append_dropWhile ..
theorem off_lt (s : Tx) (h : runS s ≠ []) : (offS s).length < s.length := by
  have := congrArg List.length (run_off s)
  have h2 : 0 < (runS s).length := List.length_pos_iff.2 h
  simp only [List.length_append] at this
  omega
theorem quo_lt : ∀ (s r : Tx), quoS s = some r → r.length < s.length
  | [], r, h => by simp [quoS] at h
  | [c], r, h => by
    simp only [quoS] at h
    split at h
    · injection h with h; subst h; simp
    · cases h
  | c :: x :: s, r, h => by
    simp only [quoS] at h
    split at h
    · injection h with h; subst h; simp
    · split at h
      · have := quo_lt s r h; simp; omega
      · have := quo_lt (x :: s) r h; simp at this ⊢; omega
theorem bare_le {l s : Tx} {a : Ad} {r : Tx} (h : bareS l s = some (a, r)) : r.length < s.length := by
  cases s with
  | nil => simp [bareS] at h
  | cons c s =>
    simp only [bareS] at h
    split at h
    · injection h with h; injection h with h1 h2; subst h2
      have := off_le s
      simp; omega
    · cases h
def gtS : Option (Ad × Tx) → Option (Ad × Tx)
  | some (a, c :: r) => if c = 62 then some (a, r) else none
  | _ => none
/-- an address, byte by byte; first: no word was read -/
def addrS (first : Bool) (s : Tx) : Option (Ad × Tx) :=
  if (skipS s).head? = some 34 then
    match h : quoS (skipS s).tail with
    | none => none
    | some r => addrS false r
  else if (skipS s).head? = some 60 then gtS (bareS (runS (skipS s).tail) (offS (skipS s).tail))
  else if first = true ∧ (offS (skipS s)).head? = some 64 then bareS (runS (skipS s)) (offS (skipS s))
  else if h : runS (skipS s) = [] then none else addrS false (offS (skipS s))
  termination_by s.length
  decreasing_by
    · have h1 := quo_lt _ _ h
      have h2 := skip_le s
      have h3 : (skipS s).tail.length ≤ (skipS s).length := by simp
      omega
    · have h1 := off_lt _ h
      have h2 := skip_le s
      omega
theorem gt_lt {o : Option (Ad × Tx)} {a : Ad} {r : Tx} (h : gtS o = some (a, r)) : ∃ q, o = some (a, 62 :: q) ∧ r = q := by
  unfold gtS at h
  split at h
  · split at h
    · rename_i hc; subst hc; injection h with h; injection h with h1 h2; exact ⟨_, by rw [h1], h2.symm⟩
    · cases h
  · cases h
theorem addr_lt (n : Nat) : ∀ (first : Bool) (s : Tx) (a : Ad) (r : Tx), s.length ≤ n → addrS first s = some (a, r) → r.length < s.length := by
  induction n with
  | zero =>
    intro first s a r hs h
    have : s = [] := List.eq_nil_of_length_eq_zero (by omega)
    subst this
    unfold addrS at h
    simp [skipS, offS, runS] at h
  | succ n ih =>
    intro first s a r hs h
    have hk := skip_le s
    unfold addrS at h
    split at h
    · rename_i h0
      split at h
      · cases h
      · rename_i q hq
        have h1 := quo_lt _ _ hq
        have h2 : (skipS s).tail.length + 1 = (skipS s).length := by
          cases e : skipS s with
          | nil => rw [e] at h0; simp at h0
          | cons c t => simp
        have := ih false q a r (by omega) h
        omega
    · split at h
      · obtain ⟨q, h1, rfl⟩ := gt_lt h
        have h2 := bare_le h1
        have h3 := off_le (skipS s).tail
        have h4 : (skipS s).tail.length ≤ (skipS s).length := by simp
        simp at h2
        omega
      · split at h
        · have := bare_le h
          have := off_le (skipS s)
          omega
        · split at h
          · cases h
          · rename_i h0
            have h1 := off_lt _ h0
            have := ih false _ a r (by omega) h
            omega
/-- a list, byte by byte -/
def listS (s : Tx) : Option (List Ad) :=
  match h : addrS true s with
  | none => none
  | some (a, r) =>
    match h2 : skipS r with
    | [] => some [a]
    | c :: q => if c = 44 then (listS q).map (a :: ·) else none
  termination_by s.length
  decreasing_by
    have h1 := addr_lt _ true s a r (Nat.le_refl _) h
    have h3 := skip_le r
    rw [h2] at h3
    simp at h3
    omega

/-! bit by bit -/
structure Bt where
  text : Tx
  run : Bool
  quo : Bool
  apart : Bool
def bitsS (ap : Bool) (s : Tx) : Option (List Bt) :=
  match s with
  | [] => some []
  | c :: r =>
    if blkB c = true then bitsS true r
    else if h : runB c = true then (bitsS false (offS (c :: r))).map (⟨runS (c :: r), true, false, ap⟩ :: ·)
    else if c ≠ 34 then (bitsS false r).map (⟨[c], false, false, ap⟩ :: ·)
    else match h2 : quoS r with
      | none => none
      | some q => (bitsS false q).map (⟨[], false, true, ap⟩ :: ·)
  termination_by s.length
  decreasing_by
    · simp
    · exact off_lt _ (by simp [runS, h])
    · simp
    · have := quo_lt _ _ h2; simp; omega
def plainB : List Bt → Option (Ad × List Bt)
  | a :: b :: c :: t => if a.run = true ∧ b.text = [64] ∧ c.run = true ∧ b.apart = false ∧ c.apart = false ∧ adrE a.text c.text = 0 then some ((a.text, c.text), t) else none
  | _ => none
def wordB (b : Bt) : Bool := b.run || b.quo
def angB : List Bt → Option (Ad × List Bt)
  | [] => none
  | x :: l => if x.text = [60] then
      match plainB l with
      | some (a, y :: t) => if l.head?.map Bt.apart = some false ∧ y.text = [62] ∧ y.apart = false then some (a, t) else none
      | _ => none
    else none
def addrB (l : List Bt) : Option (Ad × List Bt) :=
  match plainB l with
  | some x => some x
  | none => angB (l.dropWhile wordB)
theorem plainB_len {l : List Bt} {a : Ad} {t : List Bt} (h : plainB l = some (a, t)) : t.length + 3 = l.length := by
  unfold plainB at h
  split at h
  · split at h
    · injection h with h; injection h with h1 h2; subst h2; simp
    · cases h
  · cases h
theorem angB_len {l : List Bt} {a : Ad} {t : List Bt} (h : angB l = some (a, t)) : t.length < l.length := by
  cases l with
  | nil => simp [angB] at h
  | cons x l =>
    simp only [angB] at h
    split at h
    · split at h
      · rename_i a' y t' hp
        have := plainB_len hp
        split at h
        · injection h with h; injection h with h1 h2; subst h2; simp at this ⊢; omega
        · cases h
      · cases h
    · cases h
theorem addrB_len {l : List Bt} {a : Ad} {t : List Bt} (h : addrB l = some (a, t)) : t.length < l.length := by
  unfold addrB at h
  split at h
  · rename_i hp; injection h with h; subst h; have := plainB_len hp; omega
  · have := angB_len h
    have h2 := (List.dropWhile_sublist (l := l) wordB).length_le
    omega
def listB (l : List Bt) : Option (List Ad) :=
  match h : addrB l with
  | none => none
  | some (a, []) => some [a]
  | some (a, x :: t) => if x.text = [44] then (listB t).map (a :: ·) else none
  termination_by l.length
  decreasing_by
    have := addrB_len h
    simp at this
    omega
end Go.Proofs.YthhfbolhlbgbgaaDoor

namespace Go.Proofs.YthhfbolhlbgbgaaDoor
set_option linter.unusedSimpArgs false
set_option linter.unusedVariables false
theorem run_blank {c : UInt8} (h : blkB c = true) : runB c = false := by
  simp only [blkB, Bool.or_eq_true, beq_iff_eq] at h
  rcases h with rfl | rfl <;> decide
theorem run34 : runB 34 = false := by decide
theorem run60 : runB 60 = false := by decide
theorem run62 : runB 62 = false := by decide
theorem run64 : runB 64 = false := by decide
theorem run44 : runB 44 = false := by decide
theorem blk34 : blkB 34 = false := by decide
theorem blk60 : blkB 60 = false := by decide
theorem blk62 : blkB 62 = false := by decide
theorem blk64 : blkB 64 = false := by decide
theorem blk44 : blkB 44 = false := by decide
theorem bits_nil (ap : Bool) : bitsS ap [] = some [] := by unfold bitsS; rfl
theorem bits_blank {c : UInt8} {r : Tx} {ap : Bool} (h : blkB c = true) : bitsS ap (c :: r) = bitsS true r := by rw [bitsS]; simp [h]
theorem bits_run {c : UInt8} {r : Tx} {ap : Bool} (h : runB c = true) : bitsS ap (c :: r) = (bitsS false (offS (c :: r))).map (⟨runS (c :: r), true, false, ap⟩ :: ·) := by
  have hb : blkB c = false := by
    cases e : blkB c with
    | false => rfl
    | true => rw [run_blank e] at h; cases h
  rw [bitsS]; simp [h, hb]
theorem bits_one {c : UInt8} {r : Tx} {ap : Bool} (hb : blkB c = false) (h : runB c = false) (hq : c ≠ 34) : bitsS ap (c :: r) = (bitsS false r).map (⟨[c], false, false, ap⟩ :: ·) := by rw [bitsS]; simp [h, hb, hq]
theorem bits_quo {r : Tx} {ap : Bool} : bitsS ap (34 :: r) = match quoS r with | none => none | some q => (bitsS false q).map (⟨[], false, true, ap⟩ :: ·) := by
  rw [bitsS]
  simp only [blk34, run34, Bool.false_eq_true, if_false, dite_false, ne_eq, not_true_eq_false]
  split <;> rename_i h <;> rw [h]
theorem bits_quoN {r : Tx} {ap : Bool} (h : quoS r = none) : bitsS ap (34 :: r) = none := by rw [bits_quo, h]
theorem bits_quoS {r q : Tx} {ap : Bool} (h : quoS r = some q) : bitsS ap (34 :: r) = (bitsS false q).map (⟨[], false, true, ap⟩ :: ·) := by rw [bits_quo, h]
theorem skip_cons {c : UInt8} {r : Tx} (h : blkB c = true) : skipS (c :: r) = skipS r := by unfold skipS; rw [List.dropWhile_cons, if_pos h]
theorem skip_stay {c : UInt8} {r : Tx} (h : blkB c = false) : skipS (c :: r) = c :: r := by unfold skipS; rw [List.dropWhile_cons, if_neg (by rw [h]; decide)]
theorem skip_head : ∀ (s : Tx) (c : UInt8) (r : Tx), skipS s = c :: r → blkB c = false
  | [], c, r, h => by simp [skipS] at h
  | x :: s, c, r, h => by
    cases e : blkB x with
    | true => rw [skip_cons e] at h; exact skip_head s c r h
    | false => rw [skip_stay e] at h; injection h with h1 h2; rw [← h1]; exact e
/-- skipped blanks only part bits -/
theorem bits_skip : ∀ (s : Tx) (ap : Bool), bitsS ap s = bitsS ap (skipS s) ∨ (bitsS ap s = bitsS true (skipS s))
  | [], ap => .inl rfl
  | c :: r, ap => by
    cases e : blkB c with
    | true =>
      rw [bits_blank e, skip_cons e]
      rcases bits_skip r true with h | h <;> exact .inr h
    | false => rw [skip_stay e]; exact .inl rfl
theorem bits_skip' (s : Tx) (ap : Bool) : ∃ ap', bitsS ap s = bitsS ap' (skipS s) := by
  rcases bits_skip s ap with h | h
  · exact ⟨_, h⟩
  · exact ⟨_, h⟩
theorem apart_true : ∀ (s : Tx) (x : Bt) (t : List Bt), bitsS true s = some (x :: t) → x.apart = true
  | [], x, t, h => by rw [bits_nil] at h; cases h
  | c :: r, x, t, h => by
    cases e : blkB c with
    | true => rw [bits_blank e] at h; exact apart_true r x t h
    | false =>
      cases e2 : runB c with
      | true => rw [bits_run e2] at h; obtain ⟨_, _, h1⟩ := Option.map_eq_some_iff.1 h; injection h1 with h1 _; rw [← h1]
      | false =>
        by_cases e3 : c = 34
        · subst e3
          cases e4 : quoS r with
          | none => rw [bits_quoN e4] at h; cases h
          | some q => rw [bits_quoS e4] at h; obtain ⟨_, _, h1⟩ := Option.map_eq_some_iff.1 h; injection h1 with h1 _; rw [← h1]
        · rw [bits_one e e2 e3] at h; obtain ⟨_, _, h1⟩ := Option.map_eq_some_iff.1 h; injection h1 with h1 _; rw [← h1]
theorem runS_cons {c : UInt8} {r : Tx} (h : runB c = true) : runS (c :: r) = c :: runS r := by unfold runS; rw [List.takeWhile_cons, if_pos h]
theorem runS_no {c : UInt8} {r : Tx} (h : runB c = false) : runS (c :: r) = [] := by unfold runS; rw [List.takeWhile_cons, if_neg (by rw [h]; decide)]
theorem offS_no {c : UInt8} {r : Tx} (h : runB c = false) : offS (c :: r) = c :: r := by unfold offS; rw [List.dropWhile_cons, if_neg (by rw [h]; decide)]
theorem runS_nil : runS [] = [] := rfl
theorem offS_nil : offS [] = [] := rfl
/-- the first bit is this mark -/
theorem head_mark {m : UInt8} (hm : runB m = false) (s : Tx) (x : Bt) (t : List Bt) (h : bitsS false s = some (x :: t)) (ht : x.text = [m]) (ha : x.apart = false) : ∃ r, s = m :: r ∧ bitsS false r = some t := by
  cases s with
  | nil => rw [bits_nil] at h; cases h
  | cons c r =>
    cases e : blkB c with
    | true => rw [bits_blank e] at h; rw [apart_true r x t h] at ha; cases ha
    | false =>
      cases e2 : runB c with
      | true =>
        rw [bits_run e2] at h; obtain ⟨_, _, h1⟩ := Option.map_eq_some_iff.1 h; injection h1 with h1 _
        rw [← h1] at ht
        dsimp only at ht
        rw [runS_cons e2] at ht
        injection ht with h3 h4
        rw [h3, hm] at e2; cases e2
      | false =>
        by_cases e3 : c = 34
        · subst e3
          cases e4 : quoS r with
          | none => rw [bits_quoN e4] at h; cases h
          | some q => rw [bits_quoS e4] at h; obtain ⟨_, _, h1⟩ := Option.map_eq_some_iff.1 h; injection h1 with h1 _; rw [← h1] at ht; cases ht
        · rw [bits_one e e2 e3] at h; obtain ⟨l, h1, h2⟩ := Option.map_eq_some_iff.1 h; injection h2 with h2 h3
          rw [← h2] at ht
          injection ht with ht
          subst ht; subst h3
          exact ⟨r, rfl, h1⟩
theorem head_run {ap : Bool} (s : Tx) (x : Bt) (t : List Bt) (h : bitsS ap s = some (x :: t)) (hr : x.run = true) : runS (skipS s) ≠ [] ∧ x.text = runS (skipS s) ∧ bitsS false (offS (skipS s)) = some t := by
  obtain ⟨ap', h'⟩ := bits_skip' s ap
  rw [h'] at h
  have hh := skip_head s
  generalize skipS s = q at h hh
  cases q with
  | nil => rw [bits_nil] at h; cases h
  | cons c r =>
    have e := hh c r rfl
    cases e2 : runB c with
    | true =>
      rw [bits_run e2] at h; obtain ⟨l, h1, h2⟩ := Option.map_eq_some_iff.1 h; injection h2 with h2 h3
      subst h3
      rw [← h2]
      exact ⟨by rw [runS_cons e2]; simp, rfl, h1⟩
    | false =>
      by_cases e3 : c = 34
      · subst e3
        cases e4 : quoS r with
        | none => rw [bits_quoN e4] at h; cases h
        | some q => rw [bits_quoS e4] at h; obtain ⟨_, _, h1⟩ := Option.map_eq_some_iff.1 h; injection h1 with h1 _; rw [← h1] at hr; cases hr
      · rw [bits_one e e2 e3] at h; obtain ⟨l, h1, h2⟩ := Option.map_eq_some_iff.1 h; injection h2 with h2 h3
        rw [← h2] at hr; cases hr
theorem skip_apart (s : Tx) (x : Bt) (t : List Bt) (h : bitsS false s = some (x :: t)) (ha : x.apart = false) : skipS s = s := by
  cases s with
  | nil => rfl
  | cons c r =>
    cases e : blkB c with
    | true => rw [bits_blank e] at h; rw [apart_true r x t h] at ha; cases ha
    | false => exact skip_stay e
theorem bits_runs {ap : Bool} {s : Tx} (h : runS s ≠ []) : bitsS ap s = (bitsS false (offS s)).map (⟨runS s, true, false, ap⟩ :: ·) := by
  cases s with
  | nil => exact absurd rfl h
  | cons c r =>
    cases e : runB c with
    | true => exact bits_run e
    | false => rw [runS_no e] at h; exact absurd rfl h
/-- what a plain address reads as -/
theorem plain_fw {ap : Bool} {s : Tx} {l : List Bt} (h : bitsS ap s = some l) {a : Ad} {t : List Bt} (hp : plainB l = some (a, t)) : ∃ r, bareS (runS (skipS s)) (offS (skipS s)) = some (a, r) ∧ bitsS false r = some t := by
  unfold plainB at hp
  split at hp
  · rename_i x y z t'
    split at hp
    · rename_i hc
      obtain ⟨c1, c2, c3, c4, c5, c6⟩ := hc
      injection hp with hp; injection hp with hp1 hp2; subst hp2
      obtain ⟨h1, h2, h3⟩ := head_run _ _ _ h c1
      obtain ⟨q, h4, h5⟩ := head_mark run64 _ _ _ h3 c2 c4
      obtain ⟨h6, h7, h8⟩ := head_run _ _ _ h5 c3
      have h9 := skip_apart _ _ _ h5 c5
      rw [h9] at h7 h8
      refine ⟨offS q, ?_, h8⟩
      rw [h4, bareS, if_pos ⟨rfl, by rw [← h2, ← h7]; exact c6⟩, ← hp1, h2, h7]
    · cases hp
  · cases hp
theorem bare_inv {w q : Tx} {a : Ad} {r : Tx} (h : bareS w q = some (a, r)) : ∃ p, q = 64 :: p ∧ adrE w (runS p) = 0 ∧ a = (w, runS p) ∧ r = offS p ∧ w ≠ [] ∧ runS p ≠ [] := by
  cases q with
  | nil => simp [bareS] at h
  | cons c p =>
    simp only [bareS] at h
    split at h
    · rename_i hc
      injection h with h; injection h with h1 h2
      refine ⟨p, by rw [hc.1], hc.2, h1.symm, h2.symm, fun e => ?_, fun e => ?_⟩
      · rw [e] at hc; exact adrE_nil_l _ hc.2
      · rw [e] at hc; exact adrE_nil_d _ hc.2
    · cases h
theorem bare_bits {w q : Tx} {a : Ad} {r : Tx} (h : bareS w q = some (a, r)) : bitsS false q = (bitsS false r).map (fun t => ⟨[64], false, false, false⟩ :: ⟨a.2, true, false, false⟩ :: t) := by
  obtain ⟨p, rfl, h2, rfl, rfl, h5, h6⟩ := bare_inv h
  rw [bits_one blk64 run64 (by decide), bits_runs h6]
  cases bitsS false (offS p) <;> rfl
theorem plain_bw {ap : Bool} {s : Tx} {a : Ad} {r : Tx} (hb : bareS (runS (skipS s)) (offS (skipS s)) = some (a, r)) : ∃ ap', bitsS ap s = (bitsS false r).map (fun t => ⟨a.1, true, false, ap'⟩ :: ⟨[64], false, false, false⟩ :: ⟨a.2, true, false, false⟩ :: t) ∧ ∀ t, plainB (⟨a.1, true, false, ap'⟩ :: ⟨[64], false, false, false⟩ :: ⟨a.2, true, false, false⟩ :: t) = some (a, t) := by
  obtain ⟨ap', h'⟩ := bits_skip' s ap
  obtain ⟨p, h1, h2, h3, h4, h5, h6⟩ := bare_inv hb
  refine ⟨ap', ?_, fun t => ?_⟩
  · rw [h', bits_runs h5, bare_bits hb, h3]
    cases bitsS false r <;> rfl
  · rw [h3]; simp [plainB, h2]
theorem gt_bits {q : Tx} {a : Ad} {r : Tx} (h : gtS (bareS (runS q) (offS q)) = some (a, r)) : bareS (runS q) (offS q) = some (a, 62 :: r) := by
  obtain ⟨p, h1, h2⟩ := gt_lt h
  rw [h1, h2]
theorem ang_bw {q : Tx} {ap : Bool} {a : Ad} {r : Tx} (h : gtS (bareS (runS q) (offS q)) = some (a, r)) : ∃ pre, bitsS ap (60 :: q) = (bitsS false r).map (pre ++ ·) ∧ ∀ t, angB (pre ++ t) = some (a, t) ∧ (pre ++ t).dropWhile wordB = pre ++ t := by
  have hb := gt_bits h
  obtain ⟨p, h1, h2, h3, h4, h5, h6⟩ := bare_inv hb
  refine ⟨[⟨[60], false, false, ap⟩, ⟨a.1, true, false, false⟩, ⟨[64], false, false, false⟩, ⟨a.2, true, false, false⟩, ⟨[62], false, false, false⟩], ?_, fun t => ?_⟩
  · rw [bits_one blk60 run60 (by decide), bits_runs h5, bare_bits hb, bits_one blk62 run62 (by decide), h3]
    cases bitsS false r <;> rfl
  · rw [h3]; simp [angB, plainB, h2, wordB]
theorem ang_fw {q : Tx} {ap : Bool} {l : List Bt} (h : bitsS ap (60 :: q) = some l) {a : Ad} {t : List Bt} (ha : angB l = some (a, t)) : ∃ r, gtS (bareS (runS q) (offS q)) = some (a, r) ∧ bitsS false r = some t := by
  rw [bits_one blk60 run60 (by decide)] at h
  cases e : bitsS false q with
  | none => rw [e] at h; cases h
  | some l' =>
    rw [e] at h
    injection h with h
    subst h
    simp only [angB, if_true] at ha
    split at ha
    · rename_i a' y t' hp
      split at ha
      · rename_i hc
        obtain ⟨c1, c2, c3⟩ := hc
        injection ha with ha; injection ha with h1 h2
        subst h1; subst h2
        obtain ⟨r, hr1, hr2⟩ := plain_fw e hp
        have hsk : skipS q = q := by
          cases l' with
          | nil => simp at c1
          | cons z l'' => simp at c1; exact skip_apart _ _ _ e c1
        rw [hsk] at hr1
        obtain ⟨r2, hr3, hr4⟩ := head_mark run62 _ _ _ hr2 c2 c3
        refine ⟨r2, ?_, hr4⟩
        rw [hr1, hr3]; simp [gtS]
      · cases ha
    · cases ha
theorem addrS_34 {first : Bool} {s r : Tx} (h : skipS s = 34 :: r) : addrS first s = match quoS r with | none => none | some q => addrS false q := by
  rw [addrS]
  simp only [h, List.head?_cons, if_true, List.tail_cons]
  split <;> rename_i e <;> simp only [h, List.tail_cons] at e <;> rw [e]
theorem addrS_60 {first : Bool} {s r : Tx} (h : skipS s = 60 :: r) : addrS first s = gtS (bareS (runS r) (offS r)) := by
  rw [addrS]
  simp only [h, List.head?_cons, List.tail_cons]
  rw [if_neg (by decide), if_true]
theorem addrS_x {first : Bool} {s : Tx} (h1 : (skipS s).head? ≠ some 34) (h2 : (skipS s).head? ≠ some 60) : addrS first s = if first = true ∧ (offS (skipS s)).head? = some 64 then bareS (runS (skipS s)) (offS (skipS s)) else if runS (skipS s) = [] then none else addrS false (offS (skipS s)) := by
  rw [addrS, if_neg h1, if_neg h2]
  rfl
/-- the words ahead, and what stands in < and > -/
theorem addr_false (n : Nat) : ∀ (s : Tx) (ap : Bool), s.length ≤ n →
    (∀ a r, addrS false s = some (a, r) → ∃ pre, bitsS ap s = (bitsS false r).map (pre ++ ·) ∧ ∀ t, angB ((pre ++ t).dropWhile wordB) = some (a, t)) ∧
    (∀ l a t, bitsS ap s = some l → angB (l.dropWhile wordB) = some (a, t) → ∃ r, addrS false s = some (a, r)) := by
  induction n with
  | zero =>
    intro s ap hs
    have : s = [] := List.eq_nil_of_length_eq_zero (by omega)
    subst this
    refine ⟨fun a r h => ?_, fun l a t h h2 => ?_⟩
    · unfold addrS at h; simp [skipS, offS, runS] at h
    · rw [bits_nil] at h; injection h with h; subst h; simp [angB] at h2
  | succ n ih =>
    intro s ap hs
    obtain ⟨ap', h'⟩ := bits_skip' s ap
    have hk := skip_le s
    have hh := skip_head s
    rw [h']
    cases e : skipS s with
    | nil =>
      rw [addrS_x (by rw [e]; simp) (by rw [e]; simp), e]
      refine ⟨fun a r h => ?_, fun l a t h h2 => ?_⟩
      · simp [runS_nil, offS_nil] at h
      · rw [bits_nil] at h; injection h with h; subst h; simp [angB] at h2
    | cons c r =>
      have hb := hh c r e
      rw [e] at hk
      simp only [List.length_cons] at hk
      by_cases c1 : c = 34
      · subst c1
        rw [addrS_34 e]
        cases e4 : quoS r with
        | none =>
          dsimp only
          refine ⟨fun a r h => (by cases h), fun l a t h h2 => ?_⟩
          rw [bits_quoN e4] at h; cases h
        | some q =>
          dsimp only
          have hq := quo_lt _ _ e4
          obtain ⟨i1, i2⟩ := ih q false (by omega)
          rw [bits_quoS e4]
          refine ⟨fun a r h => ?_, fun l a t h h2 => ?_⟩
          · obtain ⟨pre, p1, p2⟩ := i1 a r h
            refine ⟨⟨[], false, true, ap'⟩ :: pre, ?_, fun t => ?_⟩
            · rw [p1]; cases bitsS false r <;> rfl
            · rw [List.cons_append, List.dropWhile_cons, if_pos (by rfl)]; exact p2 t
          · cases e5 : bitsS false q with
            | none => rw [e5] at h; cases h
            | some l' =>
              rw [e5] at h; injection h with h; subst h
              rw [List.dropWhile_cons, if_pos (by rfl)] at h2
              exact i2 l' a t e5 h2
      · by_cases c2 : c = 60
        · subst c2
          rw [addrS_60 e]
          refine ⟨fun a r h => ?_, fun l a t h h2 => ?_⟩
          · obtain ⟨pre, p1, p2⟩ := ang_bw (ap := ap') h
            refine ⟨pre, p1, fun t => ?_⟩
            rw [(p2 t).2]; exact (p2 t).1
          · have hne : l.dropWhile wordB = l := by
              rw [bits_one blk60 run60 (by decide)] at h
              cases e5 : bitsS false r with
              | none => rw [e5] at h; cases h
              | some l' => rw [e5] at h; injection h with h; subst h; rw [List.dropWhile_cons, if_neg (by simp [wordB])]
            rw [hne] at h2
            obtain ⟨r2, h3, _⟩ := ang_fw h h2
            exact ⟨r2, h3⟩
        · rw [addrS_x (by rw [e]; simpa using c1) (by rw [e]; simpa using c2), e]
          simp only [Bool.false_eq_true, false_and, if_false]
          cases e2 : runB c with
          | false =>
            rw [runS_no e2, if_pos rfl]
            refine ⟨fun a r h => (by cases h), fun l a t h h2 => ?_⟩
            rw [bits_one hb e2 c1] at h
            cases e5 : bitsS false r with
            | none => rw [e5] at h; cases h
            | some l' =>
              rw [e5] at h; injection h with h; subst h
              rw [List.dropWhile_cons, if_neg (by simp [wordB])] at h2
              simp [angB, c2] at h2
          | true =>
            have hrun : runS (c :: r) ≠ [] := by rw [runS_cons e2]; simp
            rw [if_neg hrun]
            have ho := off_lt _ hrun
            simp only [List.length_cons] at ho
            obtain ⟨i1, i2⟩ := ih (offS (c :: r)) false (by omega)
            rw [bits_run e2]
            refine ⟨fun a r' h => ?_, fun l a t h h2 => ?_⟩
            · obtain ⟨pre, p1, p2⟩ := i1 a r' h
              refine ⟨⟨runS (c :: r), true, false, ap'⟩ :: pre, ?_, fun t => ?_⟩
              · rw [p1]; cases bitsS false r' <;> rfl
              · rw [List.cons_append, List.dropWhile_cons, if_pos (by rfl)]; exact p2 t
            · cases e5 : bitsS false (offS (c :: r)) with
              | none => rw [e5] at h; cases h
              | some l' =>
                rw [e5] at h; injection h with h; subst h
                rw [List.dropWhile_cons, if_pos (by rfl)] at h2
                exact i2 l' a t e5 h2
theorem addrS_tf {s : Tx} (h : (skipS s).head? = some 34 ∨ (skipS s).head? = some 60 ∨ (offS (skipS s)).head? ≠ some 64) : addrS true s = addrS false s := by
  cases e : skipS s with
  | nil =>
    have h1 := addrS_x (first := true) (s := s) (by rw [e]; simp) (by rw [e]; simp)
    have h2 := addrS_x (first := false) (s := s) (by rw [e]; simp) (by rw [e]; simp)
    rw [h1, h2, e]; simp [offS_nil]
  | cons c r =>
    by_cases c1 : c = 34
    · subst c1; rw [addrS_34 e, addrS_34 e]
    · by_cases c2 : c = 60
      · subst c2; rw [addrS_60 e, addrS_60 e]
      · have h1 := addrS_x (first := true) (s := s) (by rw [e]; simpa using c1) (by rw [e]; simpa using c2)
        have h2 := addrS_x (first := false) (s := s) (by rw [e]; simpa using c1) (by rw [e]; simpa using c2)
        rw [h1, h2]
        rw [e] at h
        simp only [List.head?_cons, Option.some.injEq, c1, c2, false_or] at h
        rw [e, if_neg (fun hh : true = true ∧ _ => h hh.2), if_neg (fun hh : false = true ∧ _ => h hh.2)]
theorem addr_true (s : Tx) (ap : Bool) :
    (∀ a r, addrS true s = some (a, r) → ∃ pre, bitsS ap s = (bitsS false r).map (pre ++ ·) ∧ ∀ t, bitsS false r = some t → addrB (pre ++ t) = some (a, t)) ∧
    (∀ l a t, bitsS ap s = some l → addrB l = some (a, t) → ∃ r, addrS true s = some (a, r)) := by
  obtain ⟨f1, f2⟩ := addr_false s.length s ap (Nat.le_refl _)
  by_cases hc : (skipS s).head? = some 34 ∨ (skipS s).head? = some 60 ∨ (offS (skipS s)).head? ≠ some 64
  · rw [addrS_tf hc]
    have hnb : ∀ a r, bareS (runS (skipS s)) (offS (skipS s)) = some (a, r) → False := by
      intro a r hb
      obtain ⟨p, h1, _, _, _, h5, _⟩ := bare_inv hb
      rw [h1] at hc
      simp only [List.head?_cons, ne_eq, not_true_eq_false, or_false] at hc
      cases e : skipS s with
      | nil => rw [e] at h5; exact h5 rfl
      | cons c r =>
        rw [e] at hc h5
        simp only [List.head?_cons, Option.some.injEq] at hc
        rcases hc with rfl | rfl
        · exact h5 (runS_no run34)
        · exact h5 (runS_no run60)
    have hpl : ∀ l, bitsS ap s = some l → plainB l = none := by
      intro l hl
      cases e : plainB l with
      | none => rfl
      | some x => obtain ⟨a, t⟩ := x; obtain ⟨r, h1, _⟩ := plain_fw hl e; exact (hnb _ _ h1).elim
    refine ⟨fun a r h => ?_, fun l a t h h2 => ?_⟩
    · obtain ⟨pre, p1, p2⟩ := f1 a r h
      refine ⟨pre, p1, fun t ht => ?_⟩
      unfold addrB
      rw [hpl (pre ++ t) (by rw [p1, ht]; rfl)]
      exact p2 t
    · unfold addrB at h2
      rw [hpl l h] at h2
      exact f2 l a t h h2
  · simp only [not_or, ne_eq, Classical.not_not] at hc
    obtain ⟨c1, c2, c3⟩ := hc
    rw [addrS_x c1 c2, if_pos ⟨rfl, c3⟩]
    refine ⟨fun a r h => ?_, fun l a t h h2 => ?_⟩
    · obtain ⟨ap', p1, p2⟩ := plain_bw (ap := ap) h
      refine ⟨[⟨a.1, true, false, ap'⟩, ⟨[64], false, false, false⟩, ⟨a.2, true, false, false⟩], p1, fun t _ => ?_⟩
      have := p2 t
      unfold addrB
      simp only [List.cons_append, List.nil_append]
      rw [this]
    · unfold addrB at h2
      split at h2
      · rename_i x hp
        obtain ⟨a', t'⟩ := x
        obtain ⟨r, h3, _⟩ := plain_fw h hp
        injection h2 with h2; injection h2 with h4 h5
        exact ⟨r, by rw [← h4]; exact h3⟩
      · exfalso
        obtain ⟨ap', h'⟩ := bits_skip' s ap
        rw [h'] at h
        by_cases hr : runS (skipS s) = []
        · have : offS (skipS s) = skipS s := by
            have := run_off (skipS s); rw [hr] at this; exact this
          rw [this] at c3
          cases e : skipS s with
          | nil => rw [e] at c3; simp at c3
          | cons c r =>
            rw [e] at c3 h
            simp only [List.head?_cons, Option.some.injEq] at c3
            subst c3
            rw [bits_one blk64 run64 (by decide)] at h
            cases e5 : bitsS false r with
            | none => rw [e5] at h; cases h
            | some l' =>
              rw [e5] at h; injection h with h; subst h
              rw [List.dropWhile_cons, if_neg (by simp [wordB])] at h2
              simp [angB] at h2
        · rw [bits_runs hr] at h
          cases e : offS (skipS s) with
          | nil => rw [e] at c3; simp at c3
          | cons c r =>
            rw [e] at c3 h
            simp only [List.head?_cons, Option.some.injEq] at c3
            subst c3
            rw [bits_one blk64 run64 (by decide)] at h
            cases e5 : bitsS false r with
            | none => rw [e5] at h; cases h
            | some l' =>
              rw [e5] at h
              simp only [Option.map_some, Option.some.injEq] at h
              subst h
              rw [List.dropWhile_cons, if_pos (by rfl), List.dropWhile_cons, if_neg (by simp [wordB])] at h2
              simp [angB] at h2
theorem listB_none {l : List Bt} (h : addrB l = none) : listB l = none := by
  unfold listB; split <;> rename_i e <;> rw [h] at e <;> first | rfl | cases e
theorem listB_one {l : List Bt} {a : Ad} (h : addrB l = some (a, [])) : listB l = some [a] := by
  unfold listB; split <;> rename_i e <;> rw [h] at e
  · cases e
  · injection e with e; injection e with e1 e2; rw [e1]
  · injection e with e; injection e with e1 e2; cases e2
theorem listB_more {l t : List Bt} {x : Bt} {a : Ad} (h : addrB l = some (a, x :: t)) : listB l = if x.text = [44] then (listB t).map (a :: ·) else none := by
  rw [listB]; split <;> rename_i e <;> rw [h] at e
  · cases e
  · injection e with e; injection e with e1 e2; cases e2
  · injection e with e; injection e with e1 e2; injection e2 with e2 e3; rw [e1, e2, e3]
theorem listS_none {s : Tx} (h : addrS true s = none) : listS s = none := by
  unfold listS; split <;> rename_i e <;> rw [h] at e <;> first | rfl | cases e
theorem listS_some {s r : Tx} {a : Ad} (h : addrS true s = some (a, r)) : listS s = match skipS r with | [] => some [a] | c :: q => if c = 44 then (listS q).map (a :: ·) else none := by
  rw [listS]; split <;> rename_i e <;> rw [h] at e
  · cases e
  · injection e with e; injection e with e1 e2
    subst e1; subst e2
    split <;> rename_i e3 <;> rw [e3]
/-- both ways of reading a list -/
theorem list_bits (n : Nat) : ∀ (s : Tx) (ap : Bool), s.length ≤ n → (bitsS ap s).bind listB = listS s := by
  induction n with
  | zero =>
    intro s ap hs
    have : s = [] := List.eq_nil_of_length_eq_zero (by omega)
    subst this
    rw [bits_nil, listS_none (by unfold addrS; simp [skipS, offS, runS])]
    exact listB_none (by simp [addrB, plainB, angB])
  | succ n ih =>
    intro s ap hs
    obtain ⟨f1, f2⟩ := addr_true s ap
    cases e : addrS true s with
    | none =>
      rw [listS_none e]
      cases e1 : bitsS ap s with
      | none => rfl
      | some l =>
        refine listB_none ?_
        cases e2 : addrB l with
        | none => rfl
        | some x => obtain ⟨a, t⟩ := x; obtain ⟨r, h⟩ := f2 l a t e1 e2; rw [e] at h; cases h
    | some x =>
      obtain ⟨a, r⟩ := x
      have hlt := addr_lt s.length true s a r (Nat.le_refl _) e
      rw [listS_some e]
      obtain ⟨pre, p1, p2⟩ := f1 a r e
      rw [p1]
      obtain ⟨ap', h'⟩ := bits_skip' r false
      have hh := skip_head r
      have hk := skip_le r
      generalize skipS r = q at h' hh hk
      cases q with
      | nil =>
        rw [bits_nil] at h'
        rw [h']
        exact listB_one (p2 [] h')
      | cons c q =>
        have hb := hh c q rfl
        simp only [List.length_cons] at hk
        dsimp only
        by_cases c1 : c = 44
        · subst c1
          rw [if_pos rfl]
          rw [bits_one blk44 run44 (by decide)] at h'
          cases e5 : bitsS false q with
          | none =>
            rw [h', e5]
            have := ih q false (by omega)
            rw [e5] at this
            rw [← this]; rfl
          | some t =>
            rw [e5] at h'
            have h2 := p2 _ h'
            rw [h']
            show listB _ = _
            rw [listB_more h2, if_pos rfl]
            have := ih q false (by omega)
            rw [e5] at this
            rw [← this]; rfl
        · rw [if_neg c1]
          cases e5 : bitsS false r with
          | none => rfl
          | some l =>
            rw [h'] at e5
            have hx : ∃ x t, l = x :: t ∧ x.text ≠ [44] := by
              cases e2 : runB c with
              | true =>
                rw [bits_run e2] at e5
                cases e6 : bitsS false (offS (c :: q)) with
                | none => rw [e6] at e5; cases e5
                | some l' =>
                  rw [e6] at e5; injection e5 with e5
                  exact ⟨_, _, e5.symm, by rw [runS_cons e2]; simp; intro h; exact absurd h c1⟩
              | false =>
                by_cases c3 : c = 34
                · subst c3
                  cases e4 : quoS q with
                  | none => rw [bits_quoN e4] at e5; cases e5
                  | some q' =>
                    rw [bits_quoS e4] at e5
                    cases e6 : bitsS false q' with
                    | none => rw [e6] at e5; cases e5
                    | some l' => rw [e6] at e5; injection e5 with e5; exact ⟨_, _, e5.symm, by simp⟩
                · rw [bits_one hb e2 c3] at e5
                  cases e6 : bitsS false q with
                  | none => rw [e6] at e5; cases e5
                  | some l' => rw [e6] at e5; injection e5 with e5; exact ⟨_, _, e5.symm, by simpa using c1⟩
            obtain ⟨x, t, rfl, hx⟩ := hx
            have h2 := p2 _ (h'.trans e5)
            show listB _ = _
            rw [listB_more h2, if_neg hx]
/-- what a list reads as, with its fault -/
def listR (s : Tx) : List Ad × Int := if 2000 < s.length then ([], 1) else match listS s with | none => ([], 3) | some l => if 20 < l.length then ([], 5) else (l, 0)
end Go.Proofs.YthhfbolhlbgbgaaDoor


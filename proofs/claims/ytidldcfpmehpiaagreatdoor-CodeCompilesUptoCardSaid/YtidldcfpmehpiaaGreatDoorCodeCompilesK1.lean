/- Texts that the law CodeCompiles rests on, packed. -/
import Derived.Test.YtidldcfpmehpiaaGreatDoorCodeCompilesK0
import Derived.Test.YtidldcfpmehpiaaGreatDoorGC
import Derived.Test.YtidldcfpmehpiaaGreatDoorGT
import Derived.Test.YtidldcfpmehpiaaGreatDoorGB
namespace Go.Proofs.YtidldcfpmehpiaaGreatDoor
set_option linter.unusedSimpArgs false
set_option linter.unusedVariables false
theorem run_blank {c : UInt8} (h : blkB c = true) : runB c = false := by
  simp only [blkB, Bool.or_eq_true, beq_iff_eq] at h
  rcases h with rfl | rfl <;> decide
theorem run34 : runB 34 = false := by decide
theorem run60 : runB 60 = false := by decide
theorem run62 : runB 62 = false := by decide
theorem run64 : runB 64 = false := by decide
theorem run44 : runB 44 = false := by decide
theorem blk34 : blkB 34 = false := by decide
theorem blk60 : blkB 60 = false := by decide
theorem blk62 : blkB 62 = false := by decide
theorem blk64 : blkB 64 = false := by decide
theorem blk44 : blkB 44 = false := by decide
theorem bits_nil (ap : Bool) : bitsS ap [] = some [] := by unfold bitsS; rfl
theorem bits_blank {c : UInt8} {r : Tx} {ap : Bool} (h : blkB c = true) : bitsS ap (c :: r) = bitsS true r := by rw [bitsS]; simp [h]
theorem bits_run {c : UInt8} {r : Tx} {ap : Bool} (h : runB c = true) : bitsS ap (c :: r) = (bitsS false (offS (c :: r))).map (⟨runS (c :: r), true, false, ap⟩ :: ·) := by
  have hb : blkB c = false := by
    cases e : blkB c with
    | false => rfl
    | true => rw [run_blank e] at h; cases h
  rw [bitsS]; simp [h, hb]
theorem bits_one {c : UInt8} {r : Tx} {ap : Bool} (hb : blkB c = false) (h : runB c = false) (hq : c ≠ 34) : bitsS ap (c :: r) = (bitsS false r).map (⟨[c], false, false, ap⟩ :: ·) := by rw [bitsS]; simp [h, hb, hq]
theorem bits_quo {r : Tx} {ap : Bool} : bitsS ap (34 :: r) = match quoS r with | none => none | some q => (bitsS false q).map (⟨[], false, true, ap⟩ :: ·) := by
  rw [bitsS]
  simp only [blk34, run34, Bool.false_eq_true, if_false, dite_false, ne_eq, not_true_eq_false]
  split <;> rename_i h <;> rw [h]
theorem bits_quoN {r : Tx} {ap : Bool} (h : quoS r = none) : bitsS ap (34 :: r) = none := by rw [bits_quo, h]
theorem bits_quoS {r q : Tx} {ap : Bool} (h : quoS r = some q) : bitsS ap (34 :: r) = (bitsS false q).map (⟨[], false, true, ap⟩ :: ·) := by rw [bits_quo, h]
theorem skip_cons {c : UInt8} {r : Tx} (h : blkB c = true) : skipS (c :: r) = skipS r := by unfold skipS; rw [List.dropWhile_cons, if_pos h]
theorem skip_stay {c : UInt8} {r : Tx} (h : blkB c = false) : skipS (c :: r) = c :: r := by unfold skipS; rw [List.dropWhile_cons, if_neg (by rw [h]; decide)]
theorem skip_head : ∀ (s : Tx) (c : UInt8) (r : Tx), skipS s = c :: r → blkB c = false
  | [], c, r, h => by simp [skipS] at h
  | x :: s, c, r, h => by
    cases e : blkB x with
    | true => rw [skip_cons e] at h; exact skip_head s c r h
    | false => rw [skip_stay e] at h; injection h with h1 h2; rw [← h1]; exact e
/-- skipped blanks only part bits -/
theorem bits_skip : ∀ (s : Tx) (ap : Bool), bitsS ap s = bitsS ap (skipS s) ∨ (bitsS ap s = bitsS true (skipS s))
  | [], ap => .inl rfl
  | c :: r, ap => by
    cases e : blkB c with
    | true =>
      rw [bits_blank e, skip_cons e]
      rcases bits_skip r true with h | h <;> exact .inr h
    | false => rw [skip_stay e]; exact .inl rfl
theorem bits_skip' (s : Tx) (ap : Bool) : ∃ ap', bitsS ap s = bitsS ap' (skipS s) := by
  rcases bits_skip s ap with h | h
  · exact ⟨_, h⟩
  · exact ⟨_, h⟩
theorem apart_true : ∀ (s : Tx) (x : Bt) (t : List Bt), bitsS true s = some (x :: t) → x.apart = true
  | [], x, t, h => by rw [bits_nil] at h; cases h
  | c :: r, x, t, h => by
    cases e : blkB c with
    | true => rw [bits_blank e] at h; exact apart_true r x t h
    | false =>
      cases e2 : runB c with
      | true => rw [bits_run e2] at h; obtain ⟨_, _, h1⟩ := Option.map_eq_some_iff.1 h; injection h1 with h1 _; rw [← h1]
      | false =>
        by_cases e3 : c = 34
        · subst e3
          cases e4 : quoS r with
          | none => rw [bits_quoN e4] at h; cases h
          | some q => rw [bits_quoS e4] at h; obtain ⟨_, _, h1⟩ := Option.map_eq_some_iff.1 h; injection h1 with h1 _; rw [← h1]
        · rw [bits_one e e2 e3] at h; obtain ⟨_, _, h1⟩ := Option.map_eq_some_iff.1 h; injection h1 with h1 _; rw [← h1]
theorem runS_cons {c : UInt8} {r : Tx} (h : runB c = true) : runS (c :: r) = c :: runS r := by unfold runS; rw [List.takeWhile_cons, if_pos h]
theorem runS_no {c : UInt8} {r : Tx} (h : runB c = false) : runS (c :: r) = [] := by unfold runS; rw [List.takeWhile_cons, if_neg (by rw [h]; decide)]
theorem offS_no {c : UInt8} {r : Tx} (h : runB c = false) : offS (c :: r) = c :: r := by unfold offS; rw [List.dropWhile_cons, if_neg (by rw [h]; decide)]
theorem runS_nil : runS [] = [] := rfl
theorem offS_nil : offS [] = [] := rfl
/-- the first bit is this mark -/
theorem head_mark {m : UInt8} (hm : runB m = false) (s : Tx) (x : Bt) (t : List Bt) (h : bitsS false s = some (x :: t)) (ht : x.text = [m]) (ha : x.apart = false) : ∃ r, s = m :: r ∧ bitsS false r = some t := by
  cases s with
  | nil => rw [bits_nil] at h; cases h
  | cons c r =>
    cases e : blkB c with
    | true => rw [bits_blank e] at h; rw [apart_true r x t h] at ha; cases ha
    | false =>
      cases e2 : runB c with
      | true =>
        rw [bits_run e2] at h; obtain ⟨_, _, h1⟩ := Option.map_eq_some_iff.1 h; injection h1 with h1 _
        rw [← h1] at ht
        dsimp only at ht
        rw [runS_cons e2] at ht
        injection ht with h3 h4
        rw [h3, hm] at e2; cases e2
      | false =>
        by_cases e3 : c = 34
        · subst e3
          cases e4 : quoS r with
          | none => rw [bits_quoN e4] at h; cases h
          | some q => rw [bits_quoS e4] at h; obtain ⟨_, _, h1⟩ := Option.map_eq_some_iff.1 h; injection h1 with h1 _; rw [← h1] at ht; cases ht
        · rw [bits_one e e2 e3] at h; obtain ⟨l, h1, h2⟩ := Option.map_eq_some_iff.1 h; injection h2 with h2 h3
          rw [← h2] at ht
          injection ht with ht
          subst ht; subst h3
          exact ⟨r, rfl, h1⟩
theorem head_run {ap : Bool} (s : Tx) (x : Bt) (t : List Bt) (h : bitsS ap s = some (x :: t)) (hr : x.run = true) : runS (skipS s) ≠ [] ∧ x.text = runS (skipS s) ∧ bitsS false (offS (skipS s)) = some t := by
  obtain ⟨ap', h'⟩ := bits_skip' s ap
  rw [h'] at h
  have hh := skip_head s
  generalize skipS s = q at h hh
  cases q with
  | nil => rw [bits_nil] at h; cases h
  | cons c r =>
    have e := hh c r rfl
    cases e2 : runB c with
    | true =>
      rw [bits_run e2] at h; obtain ⟨l, h1, h2⟩ := Option.map_eq_some_iff.1 h; injection h2 with h2 h3
      subst h3
      rw [← h2]
      exact ⟨by rw [runS_cons e2]; simp, rfl, h1⟩
    | false =>
      by_cases e3 : c = 34
      · subst e3
        cases e4 : quoS r with
        | none => rw [bits_quoN e4] at h; cases h
        | some q => rw [bits_quoS e4] at h; obtain ⟨_, _, h1⟩ := Option.map_eq_some_iff.1 h; injection h1 with h1 _; rw [← h1] at hr; cases hr
      · rw [bits_one e e2 e3] at h; obtain ⟨l, h1, h2⟩ := Option.map_eq_some_iff.1 h; injection h2 with h2 h3
        rw [← h2] at hr; cases hr
theorem skip_apart (s : Tx) (x : Bt) (t : List Bt) (h : bitsS false s = some (x :: t)) (ha : x.apart = false) : skipS s = s := by
  cases s with
  | nil => rfl
  | cons c r =>
    cases e : blkB c with
    | true => rw [bits_blank e] at h; rw [apart_true r x t h] at ha; cases ha
    | false => exact skip_stay e
theorem bits_runs {ap : Bool} {s : Tx} (h : runS s ≠ []) : bitsS ap s = (bitsS false (offS s)).map (⟨runS s, true, false, ap⟩ :: ·) := by
  cases s with
  | nil => exact absurd rfl h
  | cons c r =>
    cases e : runB c with
    | true => exact bits_run e
    | false => rw [runS_no e] at h; exact absurd rfl h
/-- what a plain address reads as -/
theorem plain_fw {ap : Bool} {s : Tx} {l : List Bt} (h : bitsS ap s = some l) {a : Ad} {t : List Bt} (hp : plainB l = some (a, t)) : ∃ r, bareS (runS (skipS s)) (offS (skipS s)) = some (a, r) ∧ bitsS false r = some t := by
  unfold plainB at hp
  split at hp
  · rename_i x y z t'
    split at hp
    · rename_i hc
      obtain ⟨c1, c2, c3, c4, c5, c6⟩ := hc
      injection hp with hp; injection hp with hp1 hp2; subst hp2
      obtain ⟨h1, h2, h3⟩ := head_run _ _ _ h c1
      obtain ⟨q, h4, h5⟩ := head_mark run64 _ _ _ h3 c2 c4
      obtain ⟨h6, h7, h8⟩ := head_run _ _ _ h5 c3
      have h9 := skip_apart _ _ _ h5 c5
      rw [h9] at h7 h8
      refine ⟨offS q, ?_, h8⟩
      rw [h4, bareS, if_pos ⟨rfl, by rw [← h2, ← h7]; exact c6⟩, ← hp1, h2, h7]
    · cases hp
  · cases hp
theorem bare_inv {w q : Tx} {a : Ad} {r : Tx} (h : bareS w q = some (a, r)) : ∃ p, q = 64 :: p ∧ adrE w (runS p) = 0 ∧ a = (w, runS p) ∧ r = offS p ∧ w ≠ [] ∧ runS p ≠ [] := by
  cases q with
  | nil => simp [bareS] at h
  | cons c p =>
    simp only [bareS] at h
    split at h
    · rename_i hc
      injection h with h; injection h with h1 h2
      refine ⟨p, by rw [hc.1], hc.2, h1.symm, h2.symm, fun e => ?_, fun e => ?_⟩
      · rw [e] at hc; exact adrE_nil_l _ hc.2
      · rw [e] at hc; exact adrE_nil_d _ hc.2
    · cases h
theorem bare_bits {w q : Tx} {a : Ad} {r : Tx} (h : bareS w q = some (a, r)) : bitsS false q = (bitsS false r).map (fun t => ⟨[64], false, false, false⟩ :: ⟨a.2, true, false, false⟩ :: t) := by
  obtain ⟨p, rfl, h2, rfl, rfl, h5, h6⟩ := bare_inv h
  rw [bits_one blk64 run64 (by decide), bits_runs h6]
  cases bitsS false (offS p) <;> rfl
theorem plain_bw {ap : Bool} {s : Tx} {a : Ad} {r : Tx} (hb : bareS (runS (skipS s)) (offS (skipS s)) = some (a, r)) : ∃ ap', bitsS ap s = (bitsS false r).map (fun t => ⟨a.1, true, false, ap'⟩ :: ⟨[64], false, false, false⟩ :: ⟨a.2, true, false, false⟩ :: t) ∧ ∀ t, plainB (⟨a.1, true, false, ap'⟩ :: ⟨[64], false, false, false⟩ :: ⟨a.2, true, false, false⟩ :: t) = some (a, t) := by
  obtain ⟨ap', h'⟩ := bits_skip' s ap
  obtain ⟨p, h1, h2, h3, h4, h5, h6⟩ := bare_inv hb
  refine ⟨ap', ?_, fun t => ?_⟩
  · rw [h', bits_runs h5, bare_bits hb, h3]
    cases bitsS false r <;> rfl
  · rw [h3]; simp [plainB, h2]
theorem gt_bits {q : Tx} {a : Ad} {r : Tx} (h : gtS (bareS (runS q) (offS q)) = some (a, r)) : bareS (runS q) (offS q) = some (a, 62 :: r) := by
  obtain ⟨p, h1, h2⟩ := gt_lt h
  rw [h1, h2]
theorem ang_bw {q : Tx} {ap : Bool} {a : Ad} {r : Tx} (h : gtS (bareS (runS q) (offS q)) = some (a, r)) : ∃ pre, bitsS ap (60 :: q) = (bitsS false r).map (pre ++ ·) ∧ ∀ t, angB (pre ++ t) = some (a, t) ∧ (pre ++ t).dropWhile wordB = pre ++ t := by
  have hb := gt_bits h
  obtain ⟨p, h1, h2, h3, h4, h5, h6⟩ := bare_inv hb
  refine ⟨[⟨[60], false, false, ap⟩, ⟨a.1, true, false, false⟩, ⟨[64], false, false, false⟩, ⟨a.2, true, false, false⟩, ⟨[62], false, false, false⟩], ?_, fun t => ?_⟩
  · rw [bits_one blk60 run60 (by decide), bits_runs h5, bare_bits hb, bits_one blk62 run62 (by decide), h3]
    cases bitsS false r <;> rfl
  · rw [h3]; simp [angB, plainB, h2, wordB]
theorem ang_fw {q : Tx} {ap : Bool} {l : List Bt} (h : bitsS ap (60 :: q) = some l) {a : Ad} {t : List Bt} (ha : angB l = some (a, t)) : ∃ r, gtS (bareS (runS q) (offS q)) = some (a, r) ∧ bitsS false r = some t := by
  rw [bits_one blk60 run60 (by decide)] at h
  cases e : bitsS false q with
  | none => rw [e] at h; cases h
  | some l' =>
    rw [e] at h
    injection h with h
    subst h
    simp only [angB, if_true] at ha
    split at ha
    · rename_i a' y t' hp
      split at ha
      · rename_i hc
        obtain ⟨c1, c2, c3⟩ := hc
        injection ha with ha; injection ha with h1 h2
        subst h1; subst h2
        obtain ⟨r, hr1, hr2⟩ := plain_fw e hp
        have hsk : skipS q = q := by
          cases l' with
          | nil => simp at c1
          | cons z l'' => simp at c1; exact skip_apart _ _ _ e c1
        rw [hsk] at hr1
        obtain ⟨r2, hr3, hr4⟩ := head_mark run62 _ _ _ hr2 c2 c3
        refine ⟨r2, ?_, hr4⟩
        rw [hr1, hr3]; simp [gtS]
      · cases ha
    · cases ha
theorem addrS_34 {first : Bool} {s r : Tx} (h : skipS s = 34 :: r) : addrS first s = match quoS r with | none => none | some q => addrS false q := by
  rw [addrS]
  simp only [h, List.head?_cons, if_true, List.tail_cons]
  split <;> rename_i e <;> simp only [h, List.tail_cons] at e <;> rw [e]
theorem addrS_60 {first : Bool} {s r : Tx} (h : skipS s = 60 :: r) : addrS first s = gtS (bareS (runS r) (offS r)) := by
  rw [addrS]
  simp only [h, List.head?_cons, List.tail_cons]
  rw [if_neg (by decide), if_true]
theorem addrS_x {first : Bool} {s : Tx} (h1 : (skipS s).head? ≠ some 34) (h2 : (skipS s).head? ≠ some 60) : addrS first s = if first = true ∧ (offS (skipS s)).head? = some 64 then bareS (runS (skipS s)) (offS (skipS s)) else if runS (skipS s) = [] then none else addrS false (offS (skipS s)) := by
  rw [addrS, if_neg h1, if_neg h2]
  rfl
/-- the words ahead, and what stands in < and > -/
theorem addr_false (n : Nat) : ∀ (s : Tx) (ap : Bool), s.length ≤ n →
    (∀ a r, addrS false s = some (a, r) → ∃ pre, bitsS ap s = (bitsS false r).map (pre ++ ·) ∧ ∀ t, angB ((pre ++ t).dropWhile wordB) = some (a, t)) ∧
    (∀ l a t, bitsS ap s = some l → angB (l.dropWhile wordB) = some (a, t) → ∃ r, addrS false s = some (a, r)) := by
  induction n with
  | zero =>
    intro s ap hs
    have : s = [] := List.eq_nil_of_length_eq_zero (by omega)
    subst this
    refine ⟨fun a r h => ?_, fun l a t h h2 => ?_⟩
    · unfold addrS at h; simp [skipS, offS, runS] at h
    · rw [bits_nil] at h; injection h with h; subst h; simp [angB] at h2
  | succ n ih =>
    intro s ap hs
    obtain ⟨ap', h'⟩ := bits_skip' s ap
    have hk := skip_le s
    have hh := skip_head s
    rw [h']
    cases e : skipS s with
    | nil =>
      rw [addrS_x (by rw [e]; simp) (by rw [e]; simp), e]
      refine ⟨fun a r h => ?_, fun l a t h h2 => ?_⟩
      · simp [runS_nil, offS_nil] at h
      · rw [bits_nil] at h; injection h with h; subst h; simp [angB] at h2
    | cons c r =>
      have hb := hh c r e
      rw [e] at hk
      simp only [List.length_cons] at hk
      by_cases c1 : c = 34
      · subst c1
        rw [addrS_34 e]
        cases e4 : quoS r with
        | none =>
          dsimp only
          refine ⟨fun a r h => (by cases h), fun l a t h h2 => ?_⟩
          rw [bits_quoN e4] at h; cases h
        | some q =>
          dsimp only
          have hq := quo_lt _ _ e4
          obtain ⟨i1, i2⟩ := ih q false (by omega)
          rw [bits_quoS e4]
          refine ⟨fun a r h => ?_, fun l a t h h2 => ?_⟩
          · obtain ⟨pre, p1, p2⟩ := i1 a r h
            refine ⟨⟨[], false, true, ap'⟩ :: pre, ?_, fun t => ?_⟩
            · rw [p1]; cases bitsS false r <;> rfl
            · rw [List.cons_append, List.dropWhile_cons, if_pos (by rfl)]; exact p2 t
          · cases e5 : bitsS false q with
            | none => rw [e5] at h; cases h
            | some l' =>
              rw [e5] at h; injection h with h; subst h
              rw [List.dropWhile_cons, if_pos (by rfl)] at h2
              exact i2 l' a t e5 h2
      · by_cases c2 : c = 60
        · subst c2
          rw [addrS_60 e]
          refine ⟨fun a r h => ?_, fun l a t h h2 => ?_⟩
          · obtain ⟨pre, p1, p2⟩ := ang_bw (ap := ap') h
            refine ⟨pre, p1, fun t => ?_⟩
            rw [(p2 t).2]; exact (p2 t).1
          · have hne : l.dropWhile wordB = l := by
              rw [bits_one blk60 run60 (by decide)] at h
              cases e5 : bitsS false r with
              | none => rw [e5] at h; cases h
              | some l' => rw [e5] at h; injection h with h; subst h; rw [List.dropWhile_cons, if_neg (by simp [wordB])]
            rw [hne] at h2
            obtain ⟨r2, h3, _⟩ := ang_fw h h2
            exact ⟨r2, h3⟩
        · rw [addrS_x (by rw [e]; simpa using c1) (by rw [e]; simpa using c2), e]
          simp only [Bool.false_eq_true, false_and, if_false]
          cases e2 : runB c with
          | false =>
            rw [runS_no e2, if_pos rfl]
            refine ⟨fun a r h => (by cases h), fun l a t h h2 => ?_⟩
            rw [bits_one hb e2 c1] at h
            cases e5 : bitsS false r with
            | none => rw [e5] at h; cases h
            | some l' =>
              rw [e5] at h; injection h with h; subst h
              rw [List.dropWhile_cons, if_neg (by simp [wordB])] at h2
              simp [angB, c2] at h2
          | true =>
            have hrun : runS (c :: r) ≠ [] := by rw [runS_cons e2]; simp
            rw [if_neg hrun]
            have ho := off_lt _ hrun
            simp only [List.length_cons] at ho
            obtain ⟨i1, i2⟩ := ih (offS (c :: r)) false (by omega)
            rw [bits_run e2]
            refine ⟨fun a r' h => ?_, fun l a t h h2 => ?_⟩
            · obtain ⟨pre, p1, p2⟩ := i1 a r' h
              refine ⟨⟨runS (c :: r), true, false, ap'⟩ :: pre, ?_, fun t => ?_⟩
              · rw [p1]; cases bitsS false r' <;> rfl
              · rw [List.cons_append, List.dropWhile_cons, if_pos (by rfl)]; exact p2 t
            · cases e5 : bitsS false (offS (c :: r)) with
              | none => rw [e5] at h; cases h
              | some l' =>
                rw [e5] at h; injection h with h; subst h
                rw [List.dropWhile_cons, if_pos (by rfl)] at h2
                exact i2 l' a t e5 h2
theorem addrS_tf {s : Tx} (h : (skipS s).head? = some 34 ∨ (skipS s).head? = some 60 ∨ (offS (skipS s)).head? ≠ some 64) : addrS true s = addrS false s := by
  cases e : skipS s with
  | nil =>
    have h1 := addrS_x (first := true) (s := s) (by rw [e]; simp) (by rw [e]; simp)
    have h2 := addrS_x (first := false) (s := s) (by rw [e]; simp) (by rw [e]; simp)
    rw [h1, h2, e]; simp [offS_nil]
  | cons c r =>
    by_cases c1 : c = 34
    · subst c1; rw [addrS_34 e, addrS_34 e]
    · by_cases c2 : c = 60
      · subst c2; rw [addrS_60 e, addrS_60 e]
      · have h1 := addrS_x (first := true) (s := s) (by rw [e]; simpa using c1) (by rw [e]; simpa using c2)
        have h2 := addrS_x (first := false) (s := s) (by rw [e]; simpa using c1) (by rw [e]; simpa using c2)
        rw [h1, h2]
        rw [e] at h
        simp only [List.head?_cons, Option.some.injEq, c1, c2, false_or] at h
        rw [e, if_neg (fun hh : true = true ∧ _ => h hh.2), if_neg (fun hh : false = true ∧ _ => h hh.2)]
theorem addr_true (s : Tx) (ap : Bool) :
    (∀ a r, addrS true s = some (a, r) → ∃ pre, bitsS ap s = (bitsS false r).map (pre ++ ·) ∧ ∀ t, bitsS false r = some t → addrB (pre ++ t) = some (a, t)) ∧
    (∀ l a t, bitsS ap s = some l → addrB l = some (a, t) → ∃ r, addrS true s = some (a, r)) := by
  obtain ⟨f1, f2⟩ := addr_false s.length s ap (Nat.le_refl _)
  by_cases hc : (skipS s).head? = some 34 ∨ (skipS s).head? = some 60 ∨ (offS (skipS s)).head? ≠ some 64
  · rw [addrS_tf hc]
    have hnb : ∀ a r, bareS (runS (skipS s)) (offS (skipS s)) = some (a, r) → False := by
      intro a r hb
      obtain ⟨p, h1, _, _, _, h5, _⟩ := bare_inv hb
      rw [h1] at hc
      simp only [List.head?_cons, ne_eq, not_true_eq_false, or_false] at hc
      cases e : skipS s with
      | nil => rw [e] at h5; exact h5 rfl
      | cons c r =>
        rw [e] at hc h5
        simp only [List.head?_cons, Option.some.injEq] at hc
        rcases hc with rfl | rfl
        · exact h5 (runS_no run34)
        · exact h5 (runS_no run60)
    have hpl : ∀ l, bitsS ap s = some l → plainB l = none := by
      intro l hl
      cases e : plainB l with
      | none => rfl
      | some x => obtain ⟨a, t⟩ := x; obtain ⟨r, h1, _⟩ := plain_fw hl e; exact (hnb _ _ h1).elim
    refine ⟨fun a r h => ?_, fun l a t h h2 => ?_⟩
    · obtain ⟨pre, p1, p2⟩ := f1 a r h
      refine ⟨pre, p1, fun t ht => ?_⟩
      unfold addrB
      rw [hpl (pre ++ t) (by rw [p1, ht]; rfl)]
      exact p2 t
    · unfold addrB at h2
      rw [hpl l h] at h2
      exact f2 l a t h h2
  · simp only [not_or, ne_eq, Classical.not_not] at hc
    obtain ⟨c1, c2, c3⟩ := hc
    rw [addrS_x c1 c2, if_pos ⟨rfl, c3⟩]
    refine ⟨fun a r h => ?_, fun l a t h h2 => ?_⟩
    · obtain ⟨ap', p1, p2⟩ := plain_bw (ap := ap) h
      refine ⟨[⟨a.1, true, false, ap'⟩, ⟨[64], false, false, false⟩, ⟨a.2, true, false, false⟩], p1, fun t _ => ?_⟩
      have := p2 t
      unfold addrB
      simp only [List.cons_append, List.nil_append]
      rw [this]
    · unfold addrB at h2
      split at h2
      · rename_i x hp
        obtain ⟨a', t'⟩ := x
        obtain ⟨r, h3, _⟩ := plain_fw h hp
        injection h2 with h2; injection h2 with h4 h5
        exact ⟨r, by rw [← h4]; exact h3⟩
      · exfalso
        obtain ⟨ap', h'⟩ := bits_skip' s ap
        rw [h'] at h
        by_cases hr : runS (skipS s) = []
        · have : offS (skipS s) = skipS s := by
            have := run_off (skipS s); rw [hr] at this; exact this
          rw [this] at c3
          cases e : skipS s with
          | nil => rw [e] at c3; simp at c3
          | cons c r =>
            rw [e] at c3 h
            simp only [List.head?_cons, Option.some.injEq] at c3
            subst c3
            rw [bits_one blk64 run64 (by decide)] at h
            cases e5 : bitsS false r with
            | none => rw [e5] at h; cases h
            | some l' =>
              rw [e5] at h; injection h with h; subst h
              rw [List.dropWhile_cons, if_neg (by simp [wordB])] at h2
              simp [angB] at h2
        · rw [bits_runs hr] at h
          cases e : offS (skipS s) with
          | nil => rw [e] at c3; simp at c3
          | cons c r =>
            rw [e] at c3 h
            simp only [List.head?_cons, Option.some.injEq] at c3
            subst c3
            rw [bits_one blk64 run64 (by decide)] at h
            cases e5 : bitsS false r with
            | none => rw [e5] at h; cases h
            | some l' =>
              rw [e5] at h
              simp only [Option.map_some, Option.some.injEq] at h
              subst h
              rw [List.dropWhile_cons, if_pos (by rfl), List.dropWhile_cons, if_neg (by simp [wordB])] at h2
              simp [angB] at h2
theorem listB_none {l : List Bt} (h : addrB l = none) : listB l = none := by
  unfold listB; split <;> rename_i e <;> rw [h] at e <;> first | rfl | cases e
theorem listB_one {l : List Bt} {a : Ad} (h : addrB l = some (a, [])) : listB l = some [a] := by
  unfold listB; split <;> rename_i e <;> rw [h] at e
  · cases e
  · injection e with e; injection e with e1 e2; rw [e1]
  · injection e with e; injection e with e1 e2; cases e2
theorem listB_more {l t : List Bt} {x : Bt} {a : Ad} (h : addrB l = some (a, x :: t)) : listB l = if x.text = [44] then (listB t).map (a :: ·) else none := by
  rw [listB]; split <;> rename_i e <;> rw [h] at e
  · cases e
  · injection e with e; injection e with e1 e2; cases e2
  · injection e with e; injection e with e1 e2; injection e2 with e2 e3; rw [e1, e2, e3]
theorem listS_none {s : Tx} (h : addrS true s = none) : listS s = none := by
  unfold listS; split <;> rename_i e <;> rw [h] at e <;> first | rfl | cases e
theorem listS_some {s r : Tx} {a : Ad} (h : addrS true s = some (a, r)) : listS s = match skipS r with | [] => some [a] | c :: q => if c = 44 then (listS q).map (a :: ·) else none := by
  rw [listS]; split <;> rename_i e <;> rw [h] at e
  · cases e
  · injection e with e; injection e with e1 e2
    subst e1; subst e2
    split <;> rename_i e3 <;> rw [e3]
/-- both ways of reading a list -/
theorem list_bits (n : Nat) : ∀ (s : Tx) (ap : Bool), s.length ≤ n → (bitsS ap s).bind listB = listS s := by
  induction n with
  | zero =>
    intro s ap hs
    have : s = [] := List.eq_nil_of_length_eq_zero (by omega)
    subst this
    rw [bits_nil, listS_none (by unfold addrS; simp [skipS, offS, runS])]
    exact listB_none (by simp [addrB, plainB, angB])
  | succ n ih =>
    intro s ap hs
    obtain ⟨f1, f2⟩ := addr_true s ap
    cases e : addrS true s with
    | none =>
      rw [listS_none e]
      cases e1 : bitsS ap s with
      | none => rfl
      | some l =>
        refine listB_none ?_
        cases e2 : addrB l with
        | none => rfl
        | some x => obtain ⟨a, t⟩ := x; obtain ⟨r, h⟩ := f2 l a t e1 e2; rw [e] at h; cases h
    | some x =>
      obtain ⟨a, r⟩ := x
      have hlt := addr_lt s.length true s a r (Nat.le_refl _) e
      rw [listS_some e]
      obtain ⟨pre, p1, p2⟩ := f1 a r e
      rw [p1]
      obtain ⟨ap', h'⟩ := bits_skip' r false
      have hh := skip_head r
      have hk := skip_le r
      generalize skipS r = q at h' hh hk
      cases q with
      | nil =>
        rw [bits_nil] at h'
        rw [h']
        exact listB_one (p2 [] h')
      | cons c q =>
        have hb := hh c q rfl
        simp only [List.length_cons] at hk
        dsimp only
        by_cases c1 : c = 44
        · subst c1
          rw [if_pos rfl]
          rw [bits_one blk44 run44 (by decide)] at h'
          cases e5 : bitsS false q with
          | none =>
            rw [h', e5]
            have := ih q false (by omega)
            rw [e5] at this
            rw [← this]; rfl
          | some t =>
            rw [e5] at h'
            have h2 := p2 _ h'
            rw [h']
            show listB _ = _
            rw [listB_more h2, if_pos rfl]
            have := ih q false (by omega)
            rw [e5] at this
            rw [← this]; rfl
        · rw [if_neg c1]
          cases e5 : bitsS false r with
          | none => rfl
          | some l =>
            rw [h'] at e5
            have hx : ∃ x t, l = x :: t ∧ x.text ≠ [44] := by
              cases e2 : runB c with
              | true =>
                rw [bits_run e2] at e5
                cases e6 : bitsS false (offS (c :: q)) with
                | none => rw [e6] at e5; cases e5
                | some l' =>
                  rw [e6] at e5; injection e5 with e5
                  exact ⟨_, _, e5.symm, by rw [runS_cons e2]; simp; intro h; exact absurd h c1⟩
              | false =>
                by_cases c3 : c = 34
                · subst c3
                  cases e4 : quoS q with
                  | none => rw [bits_quoN e4] at e5; cases e5
                  | some q' =>
                    rw [bits_quoS e4] at e5
                    cases e6 : bitsS false q' with
                    | none => rw [e6] at e5; cases e5
                    | some l' => rw [e6] at e5; injection e5 with e5; exact ⟨_, _, e5.symm, by simp⟩
                · rw [bits_one hb e2 c3] at e5
                  cases e6 : bitsS false q with
                  | none => rw [e6] at e5; cases e5
                  | some l' => rw [e6] at e5; injection e5 with e5; exact ⟨_, _, e5.symm, by simpa using c1⟩
            obtain ⟨x, t, rfl, hx⟩ := hx
            have h2 := p2 _ (h'.trans e5)
            show listB _ = _
            rw [listB_more h2, if_neg hx]
/-- what a list reads as, with its fault -/
def listR (s : Tx) : List Ad × Int := if 2000 < s.length then ([], 1) else match listS s with | none => ([], 3) | some l => if 20 < l.length then ([], 5) else (l, 0)
end Go.Proofs.YtidldcfpmehpiaaGreatDoor

namespace Go.Proofs.YtidldcfpmehpiaaGreatDoor
set_option linter.unusedSimpArgs false
set_option linter.unusedVariables false
structure OpS where
  kind : Int
  dst : Int
  test : Tst
  what : Cmd
def zeT : Tst := .mk 0 0 0 [] [] false 0 []
def zeC : Cmd := .mk 0 [] zeT [] []
def opD (o : OpS) : List D := .int .i64 o.kind :: .int .i64 o.dst :: (tstD o.test ++ cmdD o.what)
def opA (o : OpS) : List AV := (opD o).map .d
def opsD (l : List OpS) : List (List D) := l.map opD
@[go_sem] theorem opsD_len (l : List OpS) : (opsD l).length = l.length := by simp [opsD]
theorem tstD_len (t : Tst) : (tstD t).length = 8 := by simp [tstD]
theorem cmdD_len (t : Cmd) : (cmdD t).length = 12 := by simp [cmdD, tstD_len]
theorem opD_len (o : OpS) : (opD o).length = 22 := by simp [opD, tstD_len, cmdD_len]
theorem ops_full (X : List OpS) : ∀ r ∈ dRows (opsD X), r.length = 22 := fun r hr => by
  obtain ⟨q, hq, rfl⟩ := List.mem_map.1 hr
  obtain ⟨o, _, rfl⟩ := List.mem_map.1 hq
  rw [List.length_map, opD_len]
/-- the maker: its slice of ops -/
def mkO (w bb cc : Nat) (X : List OpS) (F : List (Nat × Ob)) : List (Nat × Ob) := (w, ⟨1, 1, [[mA bb 22 cc X.length]]⟩) :: mO bb 22 cc (dRows (opsD X)) F
/-- ops that stand from a place on -/
def opMv (n : Nat) (o : OpS) : OpS := if 3 ≤ o.kind ∧ o.kind ≤ 5 then ⟨o.kind, o.dst + n, o.test, o.what⟩ else o
def opsMv (n : Nat) (l : List OpS) : List OpS := l.map (opMv n)
theorem opMv_add (a b : Nat) (o : OpS) : opMv a (opMv b o) = opMv (a + b) o := by
  unfold opMv
  by_cases h : 3 ≤ o.kind ∧ o.kind ≤ 5
  · rw [if_pos h, if_pos h, if_pos h]
    simp [Int.add_comm, Int.add_left_comm]
  · rw [if_neg h, if_neg h, if_neg h]
theorem opsMv_add (a b : Nat) (l : List OpS) : opsMv a (opsMv b l) = opsMv (a + b) l := by simp [opsMv, opMv_add]
theorem opsMv_len (a : Nat) (l : List OpS) : (opsMv a l).length = l.length := by simp [opsMv]
theorem opsMv_app (a : Nat) (l m : List OpS) : opsMv a (l ++ m) = opsMv a l ++ opsMv a m := by simp [opsMv]
def setTo (X : List OpS) (i : Nat) (v : Int) : List OpS := match X[i]? with
  | some o => X.set i ⟨o.kind, v, o.test, o.what⟩
  | none => X
def patchL (X : List OpS) (ps : List Nat) (v : Int) : List OpS := ps.foldl (fun X p => setTo X p v) X
theorem setTo_len (X : List OpS) (i : Nat) (v : Int) : (setTo X i v).length = X.length := by unfold setTo; split <;> simp
theorem patchL_len : ∀ (ps : List Nat) (X : List OpS) (v : Int), (patchL X ps v).length = X.length
  | [], X, v => rfl
  | p :: ps, X, v => by
    show (patchL (setTo X p v) ps v).length = _
    rw [patchL_len ps, setTo_len]
end Go.Proofs.YtidldcfpmehpiaaGreatDoor

namespace Go.Proofs.YtidldcfpmehpiaaGreatDoor
open Go.RowKit
set_option linter.unusedSimpArgs false
set_option linter.unusedVariables false
section
variable {P : Program} {T : Tbl} {h : AH} {sl : List AV} {ops : Array Oper} {rest : List Oper} {o : Oper} {K : List AV → AH → Prop} {X : AV → AH → Prop}
theorem AC.leA {f : FuncId} {az az' : List AV} {R : AR → AH → Prop} (C : AC P T f az h R) (hl : LeL true az' az) : AC P T f az' h R := ⟨C.call, fun G w vs S Rs => C.run G w vs S (Rs.le hl)⟩
end
end Go.Proofs.YtidldcfpmehpiaaGreatDoor

namespace Go.Proofs.YtidldcfpmehpiaaGreatDoor
set_option linter.unusedSimpArgs false
set_option linter.unusedVariables false
section
variable {P : Program} {T : Tbl} {Q : AQ} {sl : List AV} {c : Code} {L : List Nat} {H H' : List (Nat × Ob)}
theorem LeH.pm (p : H.Perm H') : LeH ⟨H, L⟩ ⟨H', L⟩ := LeH.perm ⟨p, .refl _⟩
theorem AWp.pm (p : H.Perm H') (K : AWp P T c Q sl ⟨H', L⟩) : AWp P T c Q sl ⟨H, L⟩ := AWp.leH (LeH.pm p) K
theorem AC.leH {f : FuncId} {args : List AV} {h h' : AH} {R : AR → AH → Prop} (p : LeH h h') (C : AC P T f args h' R) : AC P T f args h R := ⟨C.call, fun G w vs S Rs => C.run G w vs (p _ _ _ S) Rs⟩
end
theorem bne_l {x y : Nat} (h : x ≠ y) : (x == y) = false := by simpa using h
theorem bne_r {x y : Nat} (h : x ≠ y) : (y == x) = false := by simpa using fun e => h e.symm
theorem nd2 {x y : Nat} {o o' : Ob} {F : List (Nat × Ob)} (h : (List.map Prod.fst ((x, o) :: (y, o') :: F)).Nodup) : x ≠ y := by
  simp only [List.map_cons, List.nodup_cons, List.mem_cons, not_or] at h
  exact h.1.1
end Go.Proofs.YtidldcfpmehpiaaGreatDoor

namespace Go.Proofs.YtidldcfpmehpiaaGreatDoor
set_option linter.unusedSimpArgs false
set_option linter.unusedVariables false
theorem nd3w {x y z : Nat} {o o' o2 : Ob} {F : List (Nat × Ob)} (h : (List.map Prod.fst ((x, o) :: (y, o') :: (z, o2) :: F)).Nodup) : x ≠ z ∧ y ≠ z := by
  simp only [List.map_cons, List.nodup_cons, List.mem_cons, not_or] at h
  exact ⟨h.1.2.1, h.2.1.1⟩
theorem pm3 (a b c : Nat × Ob) (F : List (Nat × Ob)) : (a :: b :: c :: F).Perm (c :: a :: b :: F) := (((List.Perm.swap c b F).cons a).trans (List.Perm.swap c a _))
attribute [local go_sem] opA opD tstD cmdD List.map_cons List.map_nil List.cons_append List.nil_append in
set_option maxRecDepth 20000 in
set_option maxHeartbeats 1000000 in
theorem put_op (T : Tbl) (w bb cc : Nat) (X : List OpS) (F : List (Nat × Ob)) (L : List Nat) (hX : cc = 0 → X = []) (hl : X.length ≤ 1000000) (o : OpS) : AC Tryz.prog T 59 [.ptr w 1 0 0, .agg (opA o)] (⟨mkO w bb cc (X) F, L⟩) (fun x h => ∃ b2 c2, 0 < c2 ∧ x = .ret (.d (.int .i64 (X.length : Nat))) ∧ h = ⟨mkO w b2 c2 (X ++ [o]) F, L⟩) := by
 refine ⟨Tryz.call59, ACalls.enterS Tryz.func59 rfl Tryz.ntmps59 rfl fun hb => ?_⟩
 simp only [go_sem, Tryz.results59]
 rcases Nat.eq_zero_or_pos cc with hz | hz
 ·
  obtain rfl := hX hz
  subst hz
  simp only [mkO, mA_nil, mO_nil, List.length_nil]
  refine Zx ?_
  try simp only [go_sem]
  (repeat (with_reducible refine And.intro ZS ?_))
  intro b3
  first | intro fb3 | have fb3 := True.intro
  try simp only [freshL] at fb3
  try simp only [go_sem, fb3]
  (repeat (with_reducible refine And.intro ZS ?_))
  refine Zd true [0, 1, 2, 3, 4, 5, 6, 7, 8, 9, 10] ?_
  try simp only [go_sem, fb3]
  (repeat (with_reducible refine And.intro ZS ?_))
  refine DW.appM (b0 := 0) (c0 := 0) (rows := []) rfl rfl rfl rfl (fun _ => rfl) rfl (show slI Tryz.prog 24 = some (74, 22, 320) by simp only [go_sem]) rfl rfl (by simp) rfl (by first | decide | (simp; done) | omega) (by (try simp only [go_sem, dRows_len, opsD_len, List.length_cons, List.length_nil]) <;> first | omega | (simp; omega)) (by (try simp only [go_sem, dRows_len, opsD_len, List.length_cons, List.length_nil]) <;> first | omega | (simp; omega)) fun bm1 cm1 hcm1 fbm1 => ?_
  try simp only [freshL] at fbm1
  try simp only [go_sem, fb3, fbm1]
  (repeat (with_reducible refine And.intro ZS ?_))
  refine Zm 1 ?_
  refine Zp 2 ?_
  refine AWp.ret ?_
  try simp only [thenQ, blkQ]
  apply endW_r [b3] [] [w] [] (by (try simp only [go_sem, fb3, fbm1]) <;> rfl)
  · exact ⟨bm1, cm1, hcm1, rfl, by simp only [mkO, mA_pos hcm1, mO_pos hcm1]; (simp [go_sem, fb3, fbm1]) <;> simp [dRows, opsD, opD, tstD, cmdD]⟩
  · simp [LeA, LeD]
 simp only [mkO, mA_pos hz, mO_pos hz]
 refine Zx ?_
 try simp only [go_sem]
 (repeat (with_reducible refine And.intro ZS ?_))
 intro b3
 first | intro fb3 | have fb3 := True.intro
 try simp only [freshL] at fb3
 try simp only [go_sem, fb3]
 (repeat (with_reducible refine And.intro ZS ?_))
 refine AWp.nd fun hnd => ?_
 obtain ⟨hq1, hq2⟩ := nd3w hnd
 clear hnd
 refine AWp.pm (pm3 _ _ _ _) ?_
 have zf1 := bne_l hq1
 have zf2 := bne_r hq1
 have zf3 := bne_l hq2
 have zf4 := bne_r hq2
 refine Zd true [0, 1, 2, 3, 4, 5, 6, 7, 8, 9, 10] ?_
 try simp only [go_sem, fb3, zf1, zf2, zf3, zf4]
 (repeat (with_reducible refine And.intro ZS ?_))
 refine DW.appM (b0 := bb) (c0 := cc) (rows := dRows (opsD X)) rfl rfl (Eq.trans (b := .arr bb 22 X.length cc) rfl (by rw [mA_pos hz, dRows_len, opsD_len])) (by rw [mO_pos hz]) (fun h => absurd h (by omega)) rfl (show slI Tryz.prog 24 = some (74, 22, 320) by simp only [go_sem]) rfl rfl (ops_full _) rfl (by first | decide | (simp; done) | omega) (by (try simp only [go_sem, dRows_len, opsD_len, List.length_cons, List.length_nil]) <;> first | omega | (simp; omega)) (by (try simp only [go_sem, dRows_len, opsD_len, List.length_cons, List.length_nil]) <;> first | omega | (simp; omega)) fun bm2 cm2 hcm2 fbm2 => ?_
 try simp only [freshL] at fbm2
 try simp only [go_sem, fb3, zf1, zf2, zf3, zf4, fbm2]
 (repeat (with_reducible refine And.intro ZS ?_))
 refine Zm 1 ?_
 refine Zp 2 ?_
 refine AWp.ret ?_
 try simp only [thenQ, blkQ]
 apply endW_r [b3] [] [w] [] (by (try simp only [go_sem, fb3, zf1, zf2, zf3, zf4, fbm2]) <;> rfl)
 · exact ⟨bm2, cm2, hcm2, rfl, by simp only [mkO, mA_pos hcm2, mO_pos hcm2]; (simp [go_sem, fb3, zf1, zf2, zf3, zf4, fbm2]) <;> simp [dRows, opsD, opD, tstD, cmdD]⟩
 · simp [LeA, LeD]
end Go.Proofs.YtidldcfpmehpiaaGreatDoor

namespace Go.Proofs.YtidldcfpmehpiaaGreatDoor
set_option linter.unusedSimpArgs false
set_option linter.unusedVariables false
def psD (ps : List Nat) : List (List D) := ps.map fun p => [.int .i64 (p : Nat)]
@[go_sem] theorem psD_len (ps : List Nat) : (psD ps).length = ps.length := by simp [psD]
theorem psD_get (ps : List Nat) (k : Nat) (d : List D) (h : k < ps.length) : (psD ps).getD k d = [.int .i64 ((ps[k] : Nat) : Int)] := by simp [psD, List.getD, h]
theorem patchL_snoc (X : List OpS) (a : List Nat) (p : Nat) (v : Int) : patchL X (a ++ [p]) v = setTo (patchL X a v) p v := by simp [patchL]
theorem row_at {Y : List OpS} {p : Nat} (h : p < Y.length) : (dRows (opsD Y))[p]? = some (opA Y[p]) := by simp [dRows, opsD, opA, h]
theorem row_set {Y : List OpS} {p : Nat} {v : Int} (h : p < Y.length) : (dRows (opsD Y)).set p (opA ⟨Y[p].kind, v, Y[p].test, Y[p].what⟩) = dRows (opsD (setTo Y p v)) := by
  unfold setTo
  rw [List.getElem?_eq_getElem h]
  simp [dRows, opsD, opA, List.map_set]
attribute [local go_sem] icast8 in
set_option maxRecDepth 20000 in
set_option maxHeartbeats 1000000 in
theorem here_op (T : Tbl) (w bb cc : Nat) (X : List OpS) (F : List (Nat × Ob)) (L : List Nat) (hX : cc = 0 → X = []) (hl : X.length ≤ 1000000) (ps : List Nat) (hp : ∀ p ∈ ps, p < X.length) (hpl : ps.length ≤ 1000000) : AC Tryz.prog T 62 [.ptr w 1 0 0, .d (.slc 1 (psD ps))] (⟨mkO w bb cc (X) F, L⟩) (fun x h => x = .ret (.tup []) ∧ h = ⟨mkO w bb cc (patchL X ps (X.length : Nat)) F, L⟩) := by
 refine ⟨Tryz.call62, ACalls.enterS Tryz.func62 rfl Tryz.ntmps62 rfl fun hb => ?_⟩
 simp only [go_sem, Tryz.results62]
 rcases Nat.eq_zero_or_pos cc with hz | hz
 ·
  obtain rfl := hX hz
  subst hz
  have hps : ps = [] := by
    cases ps with
    | nil => rfl
    | cons p q => have := hp p (List.mem_cons_self ..); simp at this
  subst hps
  simp only [mkO, mA_nil, mO_nil, List.length_nil]
  refine Zp 29 ?_
  refine AWp.block ?_
  simp only [go_sem]
  refine Zl 7 8 (fun n lc hc => ∃ (k : Nat), n = 1 - k ∧ EqS lc [(8, .d (.int .i64 (k : Nat)))] ∧ EqS hc (⟨(w, ⟨1, 1, [[.full 22 []]]⟩) :: F, L⟩) ∧ (k = 0)) ⟨_, 0, rfl, ZE, ZE, ZI⟩ ?_
  rintro _ _ _ ⟨k, rfl, ⟨rfl⟩, ⟨rfl⟩, h1⟩
  simp only [go_sem]
  refine Zp 31 ?_
  refine Zs ?_
  refine Zc (fun hc0 => ?_) fun hc0 => ?_
  ·
   exfalso; simp [psD] at hc0; omega
  refine AWp.exit (thenQ_e (thenQ_e (blkQ_e ?_)))
  apply endW_n [] [] [w] [] (by (try simp only [go_sem]) <;> rfl)
  · exact ⟨rfl, by first | rfl | (simp [patchL, go_sem, mkO, mA_nil, mO_nil, ]; done)⟩
  · simp [LeA, LeL]
 simp only [mkO, mA_pos hz, mO_pos hz]
 refine AWp.nd fun hnd => ?_
 have hq := nd2 hnd
 clear hnd
 have zf1 := bne_l hq
 have zf2 := bne_r hq
 refine Zp 29 ?_
 refine AWp.block ?_
 simp only [go_sem]
 refine Zl 7 8 (fun n lc hc => ∃ (k : Nat), n = ps.length - k ∧ EqS lc [(8, .d (.int .i64 (k : Nat)))] ∧ EqS hc (⟨(w, ⟨1, 1, [[.arr bb 22 X.length cc]]⟩) :: (bb, ⟨22, cc, dRows (opsD (patchL X (ps.take k) (X.length : Nat)))⟩) :: F, L⟩) ∧ (k ≤ ps.length)) ?_ ?_
 · refine ⟨_, 0, rfl, ZE, ?_, ZI⟩
   · (try simp only [go_sem, zf1, zf2]) <;> first | exact ⟨rfl⟩ | (constructor; simp [patchL]; done)
 rintro _ _ _ ⟨k, rfl, ⟨rfl⟩, ⟨rfl⟩, h1⟩
 simp only [go_sem]
 refine Zp 31 ?_
 refine Zs ?_
 refine Zc (fun hc0 => ?_) fun hc0 => ?_
 ·
  have hlt : k < ps.length := by omega
  have hpk := hp _ (List.getElem_mem hlt)
  have hpY : ps[k] < (patchL X (ps.take k) (X.length : Nat)).length := by rw [patchL_len]; exact hpk
  have hrow := row_at hpY
  simp only [opA, opD, tstD, cmdD, List.map_cons, List.map_nil, List.cons_append, List.nil_append] at hrow
  have hpi : ((ps[k] : Nat) : Int) < (X.length : Int) := by omega
  have zf3 := fun d0_ => psD_get ps k d0_ hlt
  refine Zk ?_
  refine Zs ?_
  refine AWp.block ?_
  refine Zp 31 ?_
  refine Zt true [0, 1, 2, 3, 4, 5, 6, 7, 8, 9, 10, 11, 12] fun K_ k_ => ?_
  try simp only [go_sem, zf1, zf2, zf3, hrow, hpi]
  (repeat (with_reducible refine And.intro ZS ?_))
  refine k_ _ _ (blkQ_n (thenQ_n ?_))
  refine Zm 29 ?_
  refine Zr (thenQ_n ?_)
  refine Ze 7 8 [] [] [w, bb] [] (.e ⟨_, ZM, k + 1, rfl, ZE, ?_, ZN⟩)
  · (try simp only [go_sem, zf1, zf2, zf3, hrow, hpi]) <;> first | exact ⟨rfl⟩ | (constructor; rw [List.take_succ_eq_append_getElem hlt, patchL_snoc, ← row_set hpY]; simp [opA, opD, tstD, cmdD]; done)
 have htk : ps.take k = ps := List.take_of_length_le (by omega)
 rw [htk]
 refine AWp.exit (thenQ_e (thenQ_e (blkQ_e ?_)))
 apply endW_n [] [] [w] [] (by (try simp only [go_sem, zf1, zf2]) <;> rfl)
 · exact ⟨rfl, by first | rfl | (simp [go_sem, mkO, mA_pos hz, mO_pos hz, patchL_len, zf1, zf2]; done)⟩
 · simp [LeA, LeL]
end Go.Proofs.YtidldcfpmehpiaaGreatDoor

namespace Go.Proofs.YtidldcfpmehpiaaGreatDoor
set_option linter.unusedSimpArgs false
set_option linter.unusedVariables false
def tCE (r : List OpS × List Nat) : List OpS := patchL r.1 r.2 (r.1.length : Nat)
mutual
def tC : Tst → List OpS → List OpS
  | .mk k m p n ks o lim kids, X => if k = 3 then tC1 kids X ++ [⟨2, 0, zeT, zeC⟩] else if k = 4 ∨ k = 5 then tCE (tCL kids (if k = 5 then 3 else 4) true X []) else X ++ [⟨1, 0, .mk k m p n ks o lim kids, zeC⟩]
def tC1 : List Tst → List OpS → List OpS
  | [], X => X
  | t :: _, X => tC t X
def tCL : List Tst → Int → Bool → List OpS → List Nat → List OpS × List Nat
  | [], _, _, X, ps => (X, ps)
  | t :: l, kd, fst, X, ps => if fst = true then tCL l kd false (tC t X) ps else tCL l kd false (tC t (X ++ [⟨kd, 0, zeT, zeC⟩])) (ps ++ [X.length])
end
theorem tC_eq (t : Tst) (X : List OpS) : tC t X = if t.kind = 3 then tC1 t.kids X ++ [⟨2, 0, zeT, zeC⟩] else if t.kind = 4 ∨ t.kind = 5 then tCE (tCL t.kids (if t.kind = 5 then 3 else 4) true X []) else X ++ [⟨1, 0, t, zeC⟩] := by cases t; rw [tC]; rfl
theorem tC1_0 {l : List Tst} {X : List OpS} (h : 0 < l.length) : tC1 l X = tC (l[0]) X := by
  cases l with
  | nil => simp at h
  | cons x l => rw [tC1]; rfl
theorem tCL_le : ∀ (l : List Tst), (∀ x ∈ l, ∀ X, X.length ≤ (tC x X).length) → ∀ kd f X ps, X.length ≤ (tCL l kd f X ps).1.length
  | [], _, kd, f, X, ps => by rw [tCL]; exact Nat.le_refl _
  | t :: l, h, kd, f, X, ps => by
    have h1 := h t (List.mem_cons_self ..)
    have h2 := tCL_le l fun x hx => h x (List.mem_cons_of_mem _ hx)
    rw [tCL]
    split
    · exact Nat.le_trans (h1 X) (h2 ..)
    · have := h1 (X ++ [⟨kd, 0, zeT, zeC⟩])
      have h3 := h2 kd false (tC t (X ++ [⟨kd, 0, zeT, zeC⟩])) (ps ++ [X.length])
      simp at this
      omega
theorem tC_le (t : Tst) : ∀ X, X.length ≤ (tC t X).length := by
  induction t using Tst.ind with
  | h t ih =>
    intro X
    rw [tC_eq]
    split
    · cases hk : t.kids with
      | nil => simp [tC1]
      | cons x l => have := ih x (by rw [hk]; simp) X; rw [tC1]; simp; omega
    split
    · rw [tCE, patchL_len]; exact tCL_le _ ih _ _ _ _
    · simp
theorem tCL_all (l : List Tst) (kd : Int) (f : Bool) (X : List OpS) (ps : List Nat) : X.length ≤ (tCL l kd f X ps).1.length := tCL_le l (fun x _ => tC_le x) kd f X ps
theorem tCL_s0 {l : List Tst} {kd : Int} {X : List OpS} {ps : List Nat} (h : 0 < l.length) : tCL l kd true X ps = tCL (l.drop 1) kd false (tC (l[0]) X) ps := by
  cases l with
  | nil => simp at h
  | cons x l => rw [tCL, if_pos rfl]; rfl
theorem tCL_s {l : List Tst} {k : Nat} {kd : Int} {X : List OpS} {ps : List Nat} (h : k < l.length) : tCL (l.drop k) kd false X ps = tCL (l.drop (k + 1)) kd false (tC (l[k]) (X ++ [⟨kd, 0, zeT, zeC⟩])) (ps ++ [X.length]) := by
  rw [List.drop_eq_getElem_cons h, tCL, if_neg (by decide)]
theorem mk_in (A : List (Nat × Ob)) (w bb cc : Nat) (X : List OpS) (F : List (Nat × Ob)) : (A ++ mkO w bb cc X F).Perm (mkO w bb cc X (A ++ F)) := by
  unfold mkO mO
  split
  · exact List.perm_middle
  · refine List.perm_middle.trans (List.Perm.cons _ ?_)
    exact List.perm_middle
theorem mk_out (A : List (Nat × Ob)) (w bb cc : Nat) (X : List OpS) (F : List (Nat × Ob)) : (mkO w bb cc X (A ++ F)).Perm (A ++ mkO w bb cc X F) := (mk_in A w bb cc X F).symm
end Go.Proofs.YtidldcfpmehpiaaGreatDoor

namespace Go.Proofs.YtidldcfpmehpiaaGreatDoor
set_option linter.unusedSimpArgs false
set_option linter.unusedVariables false
set_option maxRecDepth 4000 in
set_option maxHeartbeats 1000000 in
theorem CloneT_N (T : Tbl) (F : List (Nat × Ob)) (L : List Nat) : AC Tryz.prog T 60 [.nils] (⟨F, L⟩) (fun x h => x = .ret (.d (.slc 1 ([]))) ∧ h = ⟨F, L⟩) := by
 refine ⟨Tryz.call60, ACalls.enterS Tryz.func60 rfl Tryz.ntmps60 rfl fun hb => ?_⟩
 simp only [go_sem, Tryz.results60]
 refine Zp 1 ?_
 refine Zs ?_
 refine Zp 5 ?_
 refine Zc (fun hc0 => ?_) fun hc0 => ?_
 ·
  refine Zp 2 ?_
  refine AWp.ret ?_
  try simp only [thenQ, blkQ]
  apply endW_r [] [] [] [] (by (try simp only [go_sem]) <;> rfl)
  · exact ⟨rfl, rfl⟩
  · simp [LeA]
 first | omega | exact absurd hc0 (by simp) | (simp at hc0)
set_option maxRecDepth 4000 in
set_option maxHeartbeats 1000000 in
theorem CloneT_E (T : Tbl) (l : List Tx) (hl : l.length * 16 ≤ 140737488355328) (F : List (Nat × Ob)) (L : List Nat) : AC Tryz.prog T 60 [.nn 1 (l.map strD)] (⟨F, L⟩) (fun x h => x = .ret (.d (.slc 1 (l.map strD))) ∧ h = ⟨F, L⟩) := by
 refine ⟨Tryz.call60, ACalls.enterS Tryz.func60 rfl Tryz.ntmps60 rfl fun hb => ?_⟩
 simp only [go_sem, Tryz.results60]
 refine Zp 1 ?_
 refine Zs ?_
 refine Zp 5 ?_
 refine Zc (fun hc0 => ?_) fun hc0 => ?_
 ·
  first | omega | exact absurd hc0 (by simp) | (simp at hc0)
 refine Zk ?_
 refine AWp.cut 0 fun K_ hK_ => ?_
 simp only [List.take_succ_cons, List.take_zero, List.drop_succ_cons, List.drop_zero]
 try simp only [go_sem]
 (repeat (with_reducible refine And.intro ZS ?_))
 refine DW.bsO (he := by first | rfl | kernel_rfl) rfl rfl (show slI Tryz.prog 31 = some (9, 1, 16) by simp only [go_sem]) (by (try simp only [go_sem]) <;> rfl) rfl (by decide) fun t1 ft1 => ?_
 try simp only [freshT] at ft1
 try simp only [go_sem, ft1]
 (repeat (with_reducible refine And.intro ZS ?_))
 refine DW.app rfl rfl rfl rfl (show slI Tryz.prog 31 = some (9, 1, 16) by simp only [go_sem]) rfl rfl (by simp only [go_sem, ft1]) (by first | exact .inl rfl | exact .inr rfl) (by (try simp only [go_sem, List.length_map, List.length_nil, List.length_cons]); first | done | omega) (by (try simp only [go_sem, List.length_map, List.length_nil, List.length_cons]); first | done | omega) fun t2 ft2 => ?_
 try simp only [freshT] at ft2
 try simp only [go_sem, ft1, ft2]
 (repeat (with_reducible refine And.intro ZS ?_))
 refine hK_ _ _ ?_
 refine Zm 2 ?_
 refine AWp.ret ?_
 try simp only [thenQ, blkQ]
 apply endW_r [] [t2] [] [] (by (try simp only [go_sem, ft1, ft2]) <;> rfl)
 · exact ⟨rfl, by first | rfl | (simp only [go_sem, ft1, ft2]; done) | (simp only [go_sem, ft1, ft2]; rfl)⟩
 · simp [LeA]
theorem CloneT_p (T : Tbl) (l : List Tx) (hl : l.length * 16 ≤ 140737488355328) : PC Tryz.prog T 60 [.d (.slc 1 (l.map strD))] (.d (.slc 1 (l.map strD))) := by
  refine PC.of_ac (AC.mono (R := fun x h => x = .ret (.d (.slc 1 (l.map strD))) ∧ h = ⟨[], []⟩) ?_ fun x h hx => hx.1) (by simp [LeA, LeD])
  refine AC.nnil (fun e => ?_) (CloneT_E T l hl [] [])
  cases l with
  | nil => exact CloneT_N T [] []
  | cons a l => cases e
attribute [local go_sem] tstA tstD List.map_cons List.map_nil in
set_option maxRecDepth 4000 in
set_option maxHeartbeats 1000000 in
theorem ownTest_c (T : Tbl) (t : Tst) (ok : t.Ok) : PC Tryz.prog T 116 [.agg (tstA t)] (.agg (tstA t)) := by
 refine ⟨Tryz.call116, PCall.enterS Tryz.func116 rfl Tryz.ntmps116 rfl fun hb => ?_⟩
 obtain ⟨s1, s2, s3, s4⟩ := ok.inv
 simp only [go_sem, Tryz.results116]
 refine Zx ?_
 try simp only [go_sem]
 (repeat (with_reducible refine And.intro ZS ?_))
 intro b1
 first | intro fb1 | have fb1 := True.intro
 try simp only [freshL] at fb1
 try simp only [go_sem, fb1]
 (repeat (with_reducible refine And.intro ZS ?_))
 intro b2
 first | intro fb2 | have fb2 := True.intro
 try simp only [freshL] at fb2
 try simp only [go_sem, fb1, fb2]
 (repeat (with_reducible refine And.intro ZS ?_))
 refine Zd true [0, 1, 2, 3, 4, 5, 6, 7, 8, 9] ?_
 try simp only [go_sem, fb1, fb2]
 (repeat (with_reducible refine And.intro ZS ?_))
 refine DW.pcr rfl rfl rfl rfl (CloneT_p T t.names s1) rfl rfl ?_
 try simp only [go_sem, fb1, fb2]
 (repeat (with_reducible refine And.intro ZS ?_))
 refine DW.pcr rfl rfl rfl rfl (CloneT_p T t.keys s2) rfl rfl ?_
 try simp only [go_sem, fb1, fb2]
 (repeat (with_reducible refine And.intro ZS ?_))
 refine Zm 6 ?_
 refine Zp 2 ?_
 refine AWp.ret ?_
 try simp only [go_sem, fb1, fb2]
 try simp [LeA, LeL, LeD, tstA, tstD]
end Go.Proofs.YtidldcfpmehpiaaGreatDoor

namespace Go.Proofs.YtidldcfpmehpiaaGreatDoor
set_option linter.unusedSimpArgs false
set_option linter.unusedVariables false
theorem endW_q {P : Program} {R : AR → AH → Prop} {s : List AV} {h h' : AH} (p : LeH h h') (H : endW P #[] R .normal s h') : endW P #[] R .normal s h := by
  obtain ⟨r, hr, r', hle, hc, q, hR⟩ := H
  exact ⟨r, hr, r', hle, hc, p.trans q, hR⟩
theorem mk_out1 (a : Nat × Ob) (w bb cc : Nat) (X : List OpS) (F : List (Nat × Ob)) : (mkO w bb cc X (a :: F)).Perm (a :: mkO w bb cc X F) := mk_out [a] w bb cc X F
theorem sz_op (w : Nat) (k : Int) : LeL true [.ptr w 1 0 0, .agg [.d (.int .i64 k), .d (.int .i64 0), .d (.int .i64 0), .d (.int .i64 0), .d (.int .i64 0), .nils, .nils, .d (.bool false), .d (.int .i64 0), .nils, .d (.int .i64 0), .nils, .d (.int .i64 0), .d (.int .i64 0), .d (.int .i64 0), .nils, .nils, .d (.bool false), .d (.int .i64 0), .nils, .nils, .nils]] [.ptr w 1 0 0, .agg (opA ⟨k, 0, zeT, zeC⟩)] := by simp [go_sem, kidsL, cmdsL, LeL, LeA, LeD, opA, opD, zeT, zeC, tstD, cmdD, tstA, kidsD, thnD, elsD, Tst.kind, Tst.mat, Tst.part, Tst.names, Tst.keys, Tst.over, Tst.limit, Tst.kids, Cmd.kind, Cmd.texts, Cmd.test, Cmd.thn, Cmd.els]
theorem sz_own (w : Nat) (t : Tst) : LeL true [.ptr w 1 0 0, .agg [.d (.int .i64 1), .d (.int .i64 0), .d (.int .i64 t.kind), .d (.int .i64 t.mat), .d (.int .i64 t.part), .d (.slc 1 (t.names.map strD)), .d (.slc 1 (t.keys.map strD)), .d (.bool t.over), .d (.int .i64 t.limit), .d (.slc 8 (kidsD t)), .d (.int .i64 0), .nils, .d (.int .i64 0), .d (.int .i64 0), .d (.int .i64 0), .nils, .nils, .d (.bool false), .d (.int .i64 0), .nils, .nils, .nils]] [.ptr w 1 0 0, .agg (opA ⟨1, 0, t, zeC⟩)] := by simp [go_sem, kidsL, cmdsL, LeL, LeA, LeD, opA, opD, zeT, zeC, tstD, cmdD, tstA, kidsD, thnD, elsD, Tst.kind, Tst.mat, Tst.part, Tst.names, Tst.keys, Tst.over, Tst.limit, Tst.kids, Cmd.kind, Cmd.texts, Cmd.test, Cmd.thn, Cmd.els]
theorem sz_here (w u : Nat) (ps : List Nat) : LeL true [.ptr w 1 0 0, .own u 1 (psD ps)] [.ptr w 1 0 0, .d (.slc 1 (psD ps))] := by simp [LeL, LeA, LeD]
theorem tCE_nil {r : List OpS × List Nat} {Y : List OpS} {ps : List Nat} (e : r = (Y, ps)) (h : Y = []) : tCE r = [] := by
  subst e
  exact List.eq_nil_of_length_eq_zero (by rw [tCE, patchL_len, h]; rfl)
attribute [local go_sem] tstA tstD List.map_cons List.map_nil icast8 in
set_option maxRecDepth 20000 in
set_option maxHeartbeats 4000000 in
theorem test_s (T : Tbl) (w bb cc : Nat) (X : List OpS) (F : List (Nat × Ob)) (L : List Nat) (hX : cc = 0 → X = []) (t : Tst) (ok : t.Ok) (hk3 : t.kind = 3 → 0 < t.kids.length) (hl : (tC t X).length ≤ 1000000) (ih : ∀ y ∈ t.kids, ∀ (bb cc : Nat) (X : List OpS) (F : List (Nat × Ob)) (L : List Nat), (cc = 0 → X = []) → (tC y X).length ≤ 1000000 → AC Tryz.prog T 61 [.ptr w 1 0 0, .agg (tstA y)] ⟨mkO w bb cc X F, L⟩ (fun x h => ∃ b2 c2, (c2 = 0 → tC y X = []) ∧ x = .ret (.tup []) ∧ h = ⟨mkO w b2 c2 (tC y X) F, L⟩)) : AC Tryz.prog T 61 [.ptr w 1 0 0, .agg (tstA t)] (⟨mkO w bb cc X F, L⟩) (fun x h => ∃ b2 c2, (c2 = 0 → tC t X = []) ∧ x = .ret (.tup []) ∧ h = ⟨mkO w b2 c2 (tC t X) F, L⟩) := by
 refine ⟨Tryz.call61, ACalls.enterS Tryz.func61 rfl Tryz.ntmps61 rfl fun hb => ?_⟩
 obtain ⟨s1, s2, s3, s4⟩ := ok.inv
 have hXl := tC_le t X
 simp only [go_sem, Tryz.results61]
 refine Zx ?_
 try simp only [go_sem]
 (repeat (with_reducible refine And.intro ZS ?_))
 intro b3
 first | intro fb3 | have fb3 := True.intro
 try simp only [freshL] at fb3
 try simp only [go_sem, fb3]
 (repeat (with_reducible refine And.intro ZS ?_))
 refine Zp 21 ?_
 refine AWp.block ?_
 refine Zp 15 ?_
 refine Zc (fun hc0 => ?_) fun hc0 => ?_
 ·
  have h0 := hk3 hc0
  have e1 : tC t X = tC (t.kids[0]) X ++ [⟨2, 0, zeT, zeC⟩] := by rw [tC_eq, if_pos hc0, tC1_0 h0]
  rw [e1] at hl ⊢
  simp at hl
  have zf1 := fun d0_ => kidsD_get t 0 d0_ h0
  refine Zx ?_
  try simp only [go_sem, fb3, zf1]
  (repeat (with_reducible refine And.intro ZS ?_))
  refine DW.acl rfl rfl rfl rfl (LeH.pm (mk_in [_] ..)) (by first | rfl | (simp only [go_sem, fb3, zf1]; done) | (simp only [go_sem, fb3, zf1]; rfl)) (ih _ (List.getElem_mem h0) bb cc X _ _ hX (by omega)) ?_
  rintro _ _ ⟨BB1, CC2, hCC2, rfl, rfl⟩
  try simp only [go_sem, fb3, zf1]
  (repeat (with_reducible refine And.intro ZS ?_))
  refine Zm 1 ?_
  simp only [go_sem]
  refine AWp.pm (mk_out [_] ..) ?_
  simp only [List.cons_append, List.nil_append]
  refine Zq fun K_ k_ => ?_
  try simp only [go_sem, fb3, zf1]
  (repeat (with_reducible refine And.intro ZS ?_))
  refine DW.acl rfl rfl rfl rfl (LeH.pm (mk_in [_] ..)) (by first | rfl | (simp only [go_sem, fb3, zf1]; done) | (simp only [go_sem, fb3, zf1]; rfl)) ((put_op T w _ _ (tC (t.kids[0]) X) _ _ (hCC2) (by omega) ⟨2, 0, zeT, zeC⟩).leA (by first | exact sz_op _ _ | exact sz_own _ _ | (simp [LeA]; done))) ?_
  rintro _ _ ⟨BB3, CC4, hCC4, rfl, rfl⟩
  try simp only [go_sem, fb3, zf1]
  (repeat (with_reducible refine And.intro ZS ?_))
  refine k_ _ _ (blkQ_n ?_)
  try with_reducible refine endW_q (LeH.pm (mk_out1 ..)) ?_
  apply endW_n [b3] [] [] [] (by (try simp only [go_sem, fb3, zf1]) <;> rfl)
  · first | exact ⟨BB3, CC4, fun h9 => by omega, rfl, by first | rfl | (simp only [go_sem, fb3, zf1]; done)⟩ | exact ⟨BB3, CC4, fun h9 => tCE_nil e2 (m3 h9), rfl, by first | (simp only [go_sem, fb3, zf1, e2, tCE]; done)⟩
  · simp [LeA, LeL]
 refine Zs ?_
 refine Zp 23 ?_
 simp only [go_sem]
 apply Za (z := (_ || _)) 3 26
 ·
  refine AWp.cond _ rfl (fun hc1 => ?_) fun hc1 => ?_
  rotate_left
  ·
   refine Zr (thenQ_n ?_)
   refine Zf 3 8 (.e ⟨EqS.bo (or_f hc1 rfl), ⟨rfl⟩⟩)
  refine AWp.skip (thenQ_n ?_)
  refine Zf 3 8 (.e ⟨EqS.bo (or_t hc1), ⟨rfl⟩⟩)
 simp only [go_sem]
 refine Zc (fun hc2 => ?_) fun hc2 => ?_
 ·
  have hkd : t.kind = 4 ∨ t.kind = 5 := by first | exact hc2 | omega
  have e1 : tC t X = tCE (tCL t.kids (if t.kind = 5 then 3 else 4) true X []) := by rw [tC_eq, if_neg hc0, if_pos hkd]
  rw [e1] at hl ⊢
  rw [tCE, patchL_len] at hl
  refine Zp 7 ?_
  refine Zs ?_
  refine Zp 39 ?_
  refine Zc (fun hc3 => ?_) fun hc3 => ?_
  ·
   rw [if_pos hc3] at hl ⊢
   refine Zr (thenQ_n ?_)
   refine Zp 15 ?_
   refine Zs ?_
   refine Zp 237 ?_
   refine AWp.block ?_
   simp only [go_sem]
   refine AWp.ownNilS 5 1 rfl rfl (by decide) fun u0 fu0 => ?_
   try simp only [freshT] at fu0
   simp only [go_sem]
   refine Zl 27 36 (fun n lc hc => ∃ (k u b9 c9 : Nat) (Y : List OpS) (ps : List Nat), n = t.kids.length - k ∧ EqS lc [(5, .own u 1 (psD ps)), (35, .d (.int .i64 (k : Nat)))] ∧ EqS hc (⟨(b3, ⟨8, 1, [tstA t]⟩) :: mkO w b9 c9 Y F, u :: L⟩) ∧ (k ≤ t.kids.length) ∧ (tCL t.kids 3 true X [] = tCL (t.kids.drop k) 3 (decide (k = 0)) Y ps) ∧ (c9 = 0 → Y = []) ∧ (∀ p ∈ ps, p < Y.length) ∧ (ps.length ≤ Y.length) ∧ (freshT u L)) ?_ ?_
   · refine ⟨_, 0, u0, bb, cc, X, [], rfl, ZE, ZE, ?_, ?_, ?_, ?_, ?_, ?_⟩
     all_goals (first | omega | rfl | exact hX | (intro p hp; simp at hp) | (simp; done) | exact fu0 | exact fu0.2)
   rintro _ _ _ ⟨k, u, b9, c9, Y, ps, rfl, ⟨rfl⟩, ⟨rfl⟩, m1, m2, m3, m4, m5, m6⟩
   simp only [go_sem]
   refine Zp 127 ?_
   refine Zs ?_
   refine Zc (fun hc4 => ?_) fun hc4 => ?_
   ·
    have hlt : k < t.kids.length := by omega
    have zf2 := fun d0_ => kidsD_get t k d0_ hlt
    refine Zk ?_
    refine Zs ?_
    refine AWp.block ?_
    refine Zx ?_
    try simp only [go_sem, fb3, fu0, zf2]
    (repeat (with_reducible refine And.intro ZS ?_))
    intro bz5
    first | intro fbz5 | have fbz5 := True.intro
    try simp only [freshL] at fbz5
    try simp only [go_sem, fb3, fu0, zf2, fbz5]
    (repeat (with_reducible refine And.intro ZS ?_))
    refine Zm 255 ?_
    refine Zs ?_
    refine Zp 759 ?_
    refine Zc (fun hc5 => ?_) fun hc5 => ?_
    ·
     have e2 : tCL t.kids 3 true X [] = tCL (t.kids.drop (k + 1)) 3 false (tC (t.kids[k]) (Y ++ [(⟨3, 0, zeT, zeC⟩ : OpS)])) (ps ++ [Y.length]) := by
       rw [m2, decide_eq_false (by omega : ¬ k = 0), tCL_s hlt]
     have hb : (tC (t.kids[k]) (Y ++ [(⟨3, 0, zeT, zeC⟩ : OpS)])).length ≤ 1000000 := by
       have := tCL_all (t.kids.drop (k + 1)) 3 false (tC (t.kids[k]) (Y ++ [(⟨3, 0, zeT, zeC⟩ : OpS)])) (ps ++ [Y.length])
       rw [e2] at hl
       omega
     have hb2 := tC_le (t.kids[k]) (Y ++ [(⟨3, 0, zeT, zeC⟩ : OpS)])
     have hb3 : (Y ++ [(⟨3, 0, zeT, zeC⟩ : OpS)]).length = Y.length + 1 := by simp
     refine Zq fun K_ k_ => ?_
     try simp only [go_sem, fb3, fu0, zf2, fbz5]
     (repeat (with_reducible refine And.intro ZS ?_))
     refine DW.acl rfl rfl rfl rfl (LeH.pm (mk_in [_, _] ..)) (by first | rfl | (simp only [go_sem, fb3, fu0, zf2, fbz5]; done) | (simp only [go_sem, fb3, fu0, zf2, fbz5]; rfl)) ((put_op T w _ _ (Y) _ _ (m3) (by omega) ⟨3, 0, zeT, zeC⟩).leA (by first | exact sz_op _ _ | exact sz_own _ _ | (simp [LeA]; done))) ?_
     rintro _ _ ⟨BB6, CC7, hCC7, rfl, rfl⟩
     try simp only [go_sem, fb3, fu0, zf2, fbz5]
     (repeat (with_reducible refine And.intro ZS ?_))
     refine DW.app rfl rfl rfl rfl (show slI Tryz.prog 195 = some (3, 1, 8) by simp only [go_sem]) rfl rfl (by simp only [go_sem, fb3, fu0, zf2, fbz5]) (by first | exact .inl rfl | exact .inr rfl) (by first | omega | (simp only [go_sem] <;> omega) | (simp only [go_sem, List.length_take, List.length_map, List.length_append, List.length_cons, List.length_nil] <;> omega) | (simp <;> omega)) (by first | omega | (simp only [go_sem] <;> omega) | (simp only [go_sem, List.length_take, List.length_map, List.length_append, List.length_cons, List.length_nil] <;> omega) | (simp <;> omega)) fun t1 ft1 => ?_
     try simp only [freshT] at ft1
     try simp only [go_sem, fb3, fu0, zf2, fbz5, ft1]
     (repeat (with_reducible refine And.intro ZS ?_))
     refine k_ _ _ (thenQ_n ?_)
     refine Zm 127 ?_
     try simp only [go_sem]
     try refine AWp.pm (mk_out [_, _] ..) ?_
     try simp only [List.cons_append, List.nil_append]
     refine Zq fun K_ k_ => ?_
     try simp only [go_sem, fb3, fu0, zf2, fbz5, ft1]
     (repeat (with_reducible refine And.intro ZS ?_))
     refine DW.acl rfl rfl rfl rfl (LeH.pm (mk_in [_, _] ..)) (by first | rfl | (simp only [go_sem, fb3, fu0, zf2, fbz5, ft1]; done) | (simp only [go_sem, fb3, fu0, zf2, fbz5, ft1]; rfl)) (ih _ (List.getElem_mem hlt) BB6 CC7 (Y ++ [(⟨3, 0, zeT, zeC⟩ : OpS)]) _ _ (by first | exact m3 | (intro h9; omega)) hb) ?_
     rintro _ _ ⟨BB8, CC9, hCC9, rfl, rfl⟩
     try simp only [go_sem, fb3, fu0, zf2, fbz5, ft1]
     (repeat (with_reducible refine And.intro ZS ?_))
     refine k_ _ _ (blkQ_n (thenQ_n ?_))
     refine Zm 119 ?_
     simp only [go_sem]
     refine AWp.pm (mk_out [_, _] ..) ?_
     simp only [List.cons_append, List.nil_append]
     refine Zr (thenQ_n ?_)
     refine Ze 27 36 [bz5] [] [b3] [t1] (.e ⟨_, ZM, k + 1, t1, BB8, CC9, (tC (t.kids[k]) (Y ++ [(⟨3, 0, zeT, zeC⟩ : OpS)])), (ps ++ [Y.length]), rfl, ?_, ZE, ?_, ?_, ?_, ?_, ?_, ?_⟩)
     · (try simp only [go_sem, fb3, fu0, zf2, fbz5, ft1]) <;> first | exact ⟨rfl⟩ | (constructor; first | rfl | (simp [psD]; done) | (simp [psD]; omega))
     all_goals first | omega | assumption | exact e2.trans (by rw [decide_eq_false (by omega : ¬ k + 1 = 0)]) | (intro p hp; simp only [List.mem_append, List.mem_singleton] at hp; rcases hp with hp | hp <;> first | omega | (have := m4 p hp; omega)) | (intro p hp; have := m4 p hp; omega) | (simp only [List.length_append, List.length_singleton]; omega) | exact ft1 | exact ft1.2 | exact ft1.1 | (simp_all [freshT]; done)
    have hk0 : k = 0 := by omega
    have e2 : tCL t.kids 3 true X [] = tCL (t.kids.drop (k + 1)) 3 false (tC (t.kids[k]) Y) ps := by
      rw [m2]
      subst hk0
      exact tCL_s0 hlt
    have hb : (tC (t.kids[k]) Y).length ≤ 1000000 := by
      have := tCL_all (t.kids.drop (k + 1)) 3 false (tC (t.kids[k]) Y) ps
      rw [e2] at hl
      omega
    have hb2 := tC_le (t.kids[k]) Y
    refine Zk ?_
    try simp only [go_sem]
    try refine AWp.pm (mk_out [_, _] ..) ?_
    try simp only [List.cons_append, List.nil_append]
    refine Zq fun K_ k_ => ?_
    try simp only [go_sem, fb3, fu0, zf2, fbz5]
    (repeat (with_reducible refine And.intro ZS ?_))
    refine DW.acl rfl rfl rfl rfl (LeH.pm (mk_in [_, _] ..)) (by first | rfl | (simp only [go_sem, fb3, fu0, zf2, fbz5]; done) | (simp only [go_sem, fb3, fu0, zf2, fbz5]; rfl)) (ih _ (List.getElem_mem hlt) b9 c9 Y _ _ (by first | exact m3 | (intro h9; omega)) hb) ?_
    rintro _ _ ⟨BB10, CC11, hCC11, rfl, rfl⟩
    try simp only [go_sem, fb3, fu0, zf2, fbz5]
    (repeat (with_reducible refine And.intro ZS ?_))
    refine k_ _ _ (blkQ_n (thenQ_n ?_))
    refine Zm 119 ?_
    simp only [go_sem]
    refine AWp.pm (mk_out [_, _] ..) ?_
    simp only [List.cons_append, List.nil_append]
    refine Zr (thenQ_n ?_)
    refine Ze 27 36 [bz5] [] [b3] [u] (.e ⟨_, ZM, k + 1, u, BB10, CC11, (tC (t.kids[k]) Y), ps, rfl, ?_, ZE, ?_, ?_, ?_, ?_, ?_, ?_⟩)
    · (try simp only [go_sem, fb3, fu0, zf2, fbz5]) <;> first | exact ⟨rfl⟩ | (constructor; first | rfl | (simp [psD]; done) | (simp [psD]; omega))
    all_goals first | omega | assumption | exact e2.trans (by rw [decide_eq_false (by omega : ¬ k + 1 = 0)]) | (intro p hp; simp only [List.mem_append, List.mem_singleton] at hp; rcases hp with hp | hp <;> first | omega | (have := m4 p hp; omega)) | (intro p hp; have := m4 p hp; omega) | (simp only [List.length_append, List.length_singleton]; omega) | exact fu | exact fu.2 | exact fu.1 | (simp_all [freshT]; done)
   have e2 : tCL t.kids 3 true X [] = (Y, ps) := by
     rw [m2, List.drop_eq_nil_of_le (by omega : t.kids.length ≤ k), tCL]
   rw [e2] at hl
   replace hl : Y.length ≤ 1000000 := hl
   refine AWp.exit (thenQ_e (thenQ_e (blkQ_e (thenQ_n ?_))))
   refine Zm 5 ?_
   refine Zq fun K_ k_ => ?_
   try simp only [go_sem, fb3, fu0]
   (repeat (with_reducible refine And.intro ZS ?_))
   refine DW.acl rfl rfl rfl rfl (LeH.pm (mk_in [_] ..)) (by first | rfl | (simp only [go_sem, fb3, fu0]; done) | (simp only [go_sem, fb3, fu0]; rfl)) ((here_op T w _ _ Y _ _ m3 (by omega) ps m4 (by omega)).leA (sz_here _ _ _)) ?_
   rintro _ _ ⟨rfl, rfl⟩
   try simp only [go_sem, fb3, fu0]
   (repeat (with_reducible refine And.intro ZS ?_))
   refine k_ _ _ (blkQ_n ?_)
   try with_reducible refine endW_q (LeH.pm (mk_out1 ..)) ?_
   apply endW_n [b3] [u] [] [] (by (try simp only [go_sem, fb3, fu0]) <;> rfl)
   · first | exact ⟨b9, c9, fun h9 => by omega, rfl, by first | rfl | (simp only [go_sem, fb3, fu0]; done)⟩ | exact ⟨b9, c9, fun h9 => tCE_nil e2 (m3 h9), rfl, by first | (simp only [go_sem, fb3, fu0, e2, tCE]; done)⟩
   · simp [LeA, LeL]
  rw [if_neg hc3] at hl ⊢
  refine Zk ?_
  refine Zp 15 ?_
  refine Zs ?_
  refine Zp 237 ?_
  refine AWp.block ?_
  simp only [go_sem]
  refine AWp.ownNilS 5 1 rfl rfl (by decide) fun u0 fu0 => ?_
  try simp only [freshT] at fu0
  simp only [go_sem]
  refine Zl 27 36 (fun n lc hc => ∃ (k u b9 c9 : Nat) (Y : List OpS) (ps : List Nat), n = t.kids.length - k ∧ EqS lc [(5, .own u 1 (psD ps)), (35, .d (.int .i64 (k : Nat)))] ∧ EqS hc (⟨(b3, ⟨8, 1, [tstA t]⟩) :: mkO w b9 c9 Y F, u :: L⟩) ∧ (k ≤ t.kids.length) ∧ (tCL t.kids 4 true X [] = tCL (t.kids.drop k) 4 (decide (k = 0)) Y ps) ∧ (c9 = 0 → Y = []) ∧ (∀ p ∈ ps, p < Y.length) ∧ (ps.length ≤ Y.length) ∧ (freshT u L)) ?_ ?_
  · refine ⟨_, 0, u0, bb, cc, X, [], rfl, ZE, ZE, ?_, ?_, ?_, ?_, ?_, ?_⟩
    all_goals (first | omega | rfl | exact hX | (intro p hp; simp at hp) | (simp; done) | exact fu0 | exact fu0.2)
  rintro _ _ _ ⟨k, u, b9, c9, Y, ps, rfl, ⟨rfl⟩, ⟨rfl⟩, m1, m2, m3, m4, m5, m6⟩
  simp only [go_sem]
  refine Zp 127 ?_
  refine Zs ?_
  refine Zc (fun hc4 => ?_) fun hc4 => ?_
  ·
   have hlt : k < t.kids.length := by omega
   have zf3 := fun d0_ => kidsD_get t k d0_ hlt
   refine Zk ?_
   refine Zs ?_
   refine AWp.block ?_
   refine Zx ?_
   try simp only [go_sem, fb3, fu0, zf3]
   (repeat (with_reducible refine And.intro ZS ?_))
   intro bz12
   first | intro fbz12 | have fbz12 := True.intro
   try simp only [freshL] at fbz12
   try simp only [go_sem, fb3, fu0, zf3, fbz12]
   (repeat (with_reducible refine And.intro ZS ?_))
   refine Zm 255 ?_
   refine Zs ?_
   refine Zp 759 ?_
   refine Zc (fun hc5 => ?_) fun hc5 => ?_
   ·
    have e2 : tCL t.kids 4 true X [] = tCL (t.kids.drop (k + 1)) 4 false (tC (t.kids[k]) (Y ++ [(⟨4, 0, zeT, zeC⟩ : OpS)])) (ps ++ [Y.length]) := by
      rw [m2, decide_eq_false (by omega : ¬ k = 0), tCL_s hlt]
    have hb : (tC (t.kids[k]) (Y ++ [(⟨4, 0, zeT, zeC⟩ : OpS)])).length ≤ 1000000 := by
      have := tCL_all (t.kids.drop (k + 1)) 4 false (tC (t.kids[k]) (Y ++ [(⟨4, 0, zeT, zeC⟩ : OpS)])) (ps ++ [Y.length])
      rw [e2] at hl
      omega
    have hb2 := tC_le (t.kids[k]) (Y ++ [(⟨4, 0, zeT, zeC⟩ : OpS)])
    have hb3 : (Y ++ [(⟨4, 0, zeT, zeC⟩ : OpS)]).length = Y.length + 1 := by simp
    refine Zq fun K_ k_ => ?_
    try simp only [go_sem, fb3, fu0, zf3, fbz12]
    (repeat (with_reducible refine And.intro ZS ?_))
    refine DW.acl rfl rfl rfl rfl (LeH.pm (mk_in [_, _] ..)) (by first | rfl | (simp only [go_sem, fb3, fu0, zf3, fbz12]; done) | (simp only [go_sem, fb3, fu0, zf3, fbz12]; rfl)) ((put_op T w _ _ (Y) _ _ (m3) (by omega) ⟨4, 0, zeT, zeC⟩).leA (by first | exact sz_op _ _ | exact sz_own _ _ | (simp [LeA]; done))) ?_
    rintro _ _ ⟨BB13, CC14, hCC14, rfl, rfl⟩
    try simp only [go_sem, fb3, fu0, zf3, fbz12]
    (repeat (with_reducible refine And.intro ZS ?_))
    refine DW.app rfl rfl rfl rfl (show slI Tryz.prog 195 = some (3, 1, 8) by simp only [go_sem]) rfl rfl (by simp only [go_sem, fb3, fu0, zf3, fbz12]) (by first | exact .inl rfl | exact .inr rfl) (by first | omega | (simp only [go_sem] <;> omega) | (simp only [go_sem, List.length_take, List.length_map, List.length_append, List.length_cons, List.length_nil] <;> omega) | (simp <;> omega)) (by first | omega | (simp only [go_sem] <;> omega) | (simp only [go_sem, List.length_take, List.length_map, List.length_append, List.length_cons, List.length_nil] <;> omega) | (simp <;> omega)) fun t2 ft2 => ?_
    try simp only [freshT] at ft2
    try simp only [go_sem, fb3, fu0, zf3, fbz12, ft2]
    (repeat (with_reducible refine And.intro ZS ?_))
    refine k_ _ _ (thenQ_n ?_)
    refine Zm 127 ?_
    try simp only [go_sem]
    try refine AWp.pm (mk_out [_, _] ..) ?_
    try simp only [List.cons_append, List.nil_append]
    refine Zq fun K_ k_ => ?_
    try simp only [go_sem, fb3, fu0, zf3, fbz12, ft2]
    (repeat (with_reducible refine And.intro ZS ?_))
    refine DW.acl rfl rfl rfl rfl (LeH.pm (mk_in [_, _] ..)) (by first | rfl | (simp only [go_sem, fb3, fu0, zf3, fbz12, ft2]; done) | (simp only [go_sem, fb3, fu0, zf3, fbz12, ft2]; rfl)) (ih _ (List.getElem_mem hlt) BB13 CC14 (Y ++ [(⟨4, 0, zeT, zeC⟩ : OpS)]) _ _ (by first | exact m3 | (intro h9; omega)) hb) ?_
    rintro _ _ ⟨BB15, CC16, hCC16, rfl, rfl⟩
    try simp only [go_sem, fb3, fu0, zf3, fbz12, ft2]
    (repeat (with_reducible refine And.intro ZS ?_))
    refine k_ _ _ (blkQ_n (thenQ_n ?_))
    refine Zm 119 ?_
    simp only [go_sem]
    refine AWp.pm (mk_out [_, _] ..) ?_
    simp only [List.cons_append, List.nil_append]
    refine Zr (thenQ_n ?_)
    refine Ze 27 36 [bz12] [] [b3] [t2] (.e ⟨_, ZM, k + 1, t2, BB15, CC16, (tC (t.kids[k]) (Y ++ [(⟨4, 0, zeT, zeC⟩ : OpS)])), (ps ++ [Y.length]), rfl, ?_, ZE, ?_, ?_, ?_, ?_, ?_, ?_⟩)
    · (try simp only [go_sem, fb3, fu0, zf3, fbz12, ft2]) <;> first | exact ⟨rfl⟩ | (constructor; first | rfl | (simp [psD]; done) | (simp [psD]; omega))
    all_goals first | omega | assumption | exact e2.trans (by rw [decide_eq_false (by omega : ¬ k + 1 = 0)]) | (intro p hp; simp only [List.mem_append, List.mem_singleton] at hp; rcases hp with hp | hp <;> first | omega | (have := m4 p hp; omega)) | (intro p hp; have := m4 p hp; omega) | (simp only [List.length_append, List.length_singleton]; omega) | exact ft2 | exact ft2.2 | exact ft2.1 | (simp_all [freshT]; done)
   have hk0 : k = 0 := by omega
   have e2 : tCL t.kids 4 true X [] = tCL (t.kids.drop (k + 1)) 4 false (tC (t.kids[k]) Y) ps := by
     rw [m2]
     subst hk0
     exact tCL_s0 hlt
   have hb : (tC (t.kids[k]) Y).length ≤ 1000000 := by
     have := tCL_all (t.kids.drop (k + 1)) 4 false (tC (t.kids[k]) Y) ps
     rw [e2] at hl
     omega
   have hb2 := tC_le (t.kids[k]) Y
   refine Zk ?_
   try simp only [go_sem]
   try refine AWp.pm (mk_out [_, _] ..) ?_
   try simp only [List.cons_append, List.nil_append]
   refine Zq fun K_ k_ => ?_
   try simp only [go_sem, fb3, fu0, zf3, fbz12]
   (repeat (with_reducible refine And.intro ZS ?_))
   refine DW.acl rfl rfl rfl rfl (LeH.pm (mk_in [_, _] ..)) (by first | rfl | (simp only [go_sem, fb3, fu0, zf3, fbz12]; done) | (simp only [go_sem, fb3, fu0, zf3, fbz12]; rfl)) (ih _ (List.getElem_mem hlt) b9 c9 Y _ _ (by first | exact m3 | (intro h9; omega)) hb) ?_
   rintro _ _ ⟨BB17, CC18, hCC18, rfl, rfl⟩
   try simp only [go_sem, fb3, fu0, zf3, fbz12]
   (repeat (with_reducible refine And.intro ZS ?_))
   refine k_ _ _ (blkQ_n (thenQ_n ?_))
   refine Zm 119 ?_
   simp only [go_sem]
   refine AWp.pm (mk_out [_, _] ..) ?_
   simp only [List.cons_append, List.nil_append]
   refine Zr (thenQ_n ?_)
   refine Ze 27 36 [bz12] [] [b3] [u] (.e ⟨_, ZM, k + 1, u, BB17, CC18, (tC (t.kids[k]) Y), ps, rfl, ?_, ZE, ?_, ?_, ?_, ?_, ?_, ?_⟩)
   · (try simp only [go_sem, fb3, fu0, zf3, fbz12]) <;> first | exact ⟨rfl⟩ | (constructor; first | rfl | (simp [psD]; done) | (simp [psD]; omega))
   all_goals first | omega | assumption | exact e2.trans (by rw [decide_eq_false (by omega : ¬ k + 1 = 0)]) | (intro p hp; simp only [List.mem_append, List.mem_singleton] at hp; rcases hp with hp | hp <;> first | omega | (have := m4 p hp; omega)) | (intro p hp; have := m4 p hp; omega) | (simp only [List.length_append, List.length_singleton]; omega) | exact fu | exact fu.2 | exact fu.1 | (simp_all [freshT]; done)
  have e2 : tCL t.kids 4 true X [] = (Y, ps) := by
    rw [m2, List.drop_eq_nil_of_le (by omega : t.kids.length ≤ k), tCL]
  rw [e2] at hl
  replace hl : Y.length ≤ 1000000 := hl
  refine AWp.exit (thenQ_e (thenQ_e (blkQ_e (thenQ_n ?_))))
  refine Zm 5 ?_
  refine Zq fun K_ k_ => ?_
  try simp only [go_sem, fb3, fu0]
  (repeat (with_reducible refine And.intro ZS ?_))
  refine DW.acl rfl rfl rfl rfl (LeH.pm (mk_in [_] ..)) (by first | rfl | (simp only [go_sem, fb3, fu0]; done) | (simp only [go_sem, fb3, fu0]; rfl)) ((here_op T w _ _ Y _ _ m3 (by omega) ps m4 (by omega)).leA (sz_here _ _ _)) ?_
  rintro _ _ ⟨rfl, rfl⟩
  try simp only [go_sem, fb3, fu0]
  (repeat (with_reducible refine And.intro ZS ?_))
  refine k_ _ _ (blkQ_n ?_)
  try with_reducible refine endW_q (LeH.pm (mk_out1 ..)) ?_
  apply endW_n [b3] [u] [] [] (by (try simp only [go_sem, fb3, fu0]) <;> rfl)
  · first | exact ⟨b9, c9, fun h9 => by omega, rfl, by first | rfl | (simp only [go_sem, fb3, fu0]; done)⟩ | exact ⟨b9, c9, fun h9 => tCE_nil e2 (m3 h9), rfl, by first | (simp only [go_sem, fb3, fu0, e2, tCE]; done)⟩
  · simp [LeA, LeL]
 have e1 : tC t X = X ++ [⟨1, 0, t, zeC⟩] := by rw [tC_eq, if_neg hc0, if_neg (by first | exact hc2 | omega)]
 rw [e1] at hl ⊢
 simp at hl
 refine Zq fun K_ k_ => ?_
 try simp only [go_sem, fb3]
 (repeat (with_reducible refine And.intro ZS ?_))
 refine DW.pcr rfl rfl rfl rfl (ownTest_c T t ok) rfl rfl ?_
 try simp only [go_sem, fb3]
 (repeat (with_reducible refine And.intro ZS ?_))
 refine DW.acl rfl rfl rfl rfl (LeH.pm (mk_in [_] ..)) (by first | rfl | (simp only [go_sem, fb3]; done) | (simp only [go_sem, fb3]; rfl)) ((put_op T w _ _ (X) _ _ (hX) (by omega) ⟨1, 0, t, zeC⟩).leA (by first | exact sz_op _ _ | exact sz_own _ _ | (simp [LeA]; done))) ?_
 rintro _ _ ⟨BB19, CC20, hCC20, rfl, rfl⟩
 try simp only [go_sem, fb3]
 (repeat (with_reducible refine And.intro ZS ?_))
 refine k_ _ _ (blkQ_n ?_)
 try with_reducible refine endW_q (LeH.pm (mk_out1 ..)) ?_
 apply endW_n [b3] [] [] [] (by (try simp only [go_sem, fb3]) <;> rfl)
 · first | exact ⟨BB19, CC20, fun h9 => by omega, rfl, by first | rfl | (simp only [go_sem, fb3]; done)⟩ | exact ⟨BB19, CC20, fun h9 => tCE_nil e2 (m3 h9), rfl, by first | (simp only [go_sem, fb3, e2, tCE]; done)⟩
 · simp [LeA, LeL]
end Go.Proofs.YtidldcfpmehpiaaGreatDoor

namespace Go.Proofs.YtidldcfpmehpiaaGreatDoor
open Go.Sem
set_option linter.unusedSimpArgs false
set_option linter.unusedVariables false
/-- every turned test has a kid -/
inductive K3 : Tst → Prop where
  | mk {t : Tst} (h : t.kind = 3 → 0 < t.kids.length) (hs : ∀ x ∈ t.kids, K3 x) : K3 t
theorem K3.inv {t : Tst} (h : K3 t) : (t.kind = 3 → 0 < t.kids.length) ∧ ∀ x ∈ t.kids, K3 x := by
  cases h; exact ⟨by assumption, by assumption⟩
theorem test_c (T : Tbl) (w : Nat) (t : Tst) : t.Ok → K3 t → ∀ (bb cc : Nat) (X : List OpS) (F : List (Nat × Ob)) (L : List Nat), (cc = 0 → X = []) → (tC t X).length ≤ 1000000 → AC Tryz.prog T 61 [.ptr w 1 0 0, .agg (tstA t)] ⟨mkO w bb cc X F, L⟩ (fun x h => ∃ b2 c2, (c2 = 0 → tC t X = []) ∧ x = .ret (.tup []) ∧ h = ⟨mkO w b2 c2 (tC t X) F, L⟩) := by
  induction t using Tst.ind with
  | h t ih =>
    intro ok k3 bb cc X F L hX hl
    exact test_s T w bb cc X F L hX t ok k3.inv.1 hl fun y hy => ih y hy (ok.inv.2.2.2 y hy) (k3.inv.2 y hy)
mutual
def cC : Cmd → List OpS → List OpS
  | .mk k ts t a b, X => if k = 2 then cCE b (tC t X).length (cCL a (tC t X ++ [⟨4, 0, zeT, zeC⟩])) else X ++ [⟨6, 0, zeT, .mk k ts zeT [] []⟩]
def cCE : List Cmd → Nat → List OpS → List OpS
  | [], p, Z => patchL Z [p] (Z.length : Nat)
  | c :: l, p, Z => cCF (cCL l (cC c (patchL (Z ++ [⟨5, 0, zeT, zeC⟩]) [p] (Z.length + 1 : Nat)))) Z.length
def cCL : List Cmd → List OpS → List OpS
  | [], X => X
  | c :: l, X => cCL l (cC c X)
def cCF : List OpS → Nat → List OpS
  | Z, p => patchL Z [p] (Z.length : Nat)
end
theorem cC_eq (c : Cmd) (X : List OpS) : cC c X = if c.kind = 2 then cCE c.els (tC c.test X).length (cCL c.thn (tC c.test X ++ [⟨4, 0, zeT, zeC⟩])) else X ++ [⟨6, 0, zeT, .mk c.kind c.texts zeT [] []⟩] := by cases c; rw [cC]; rfl
theorem cCE_p {l : List Cmd} {p : Nat} {Z : List OpS} (h : 0 < l.length) : cCE l p Z = patchL (cCL l (patchL (Z ++ [⟨5, 0, zeT, zeC⟩]) [p] (Z.length + 1 : Nat))) [Z.length] ((cCL l (patchL (Z ++ [⟨5, 0, zeT, zeC⟩]) [p] (Z.length + 1 : Nat))).length : Nat) := by
  cases l with
  | nil => simp at h
  | cons c l => rw [cCE, cCF, cCL]
theorem cCL_s {l : List Cmd} {k : Nat} {X : List OpS} (h : k < l.length) : cCL (l.drop k) X = cCL (l.drop (k + 1)) (cC (l[k]) X) := by
  rw [List.drop_eq_getElem_cons h, cCL]
theorem cCL_le : ∀ (l : List Cmd), (∀ x ∈ l, ∀ X, X.length ≤ (cC x X).length) → ∀ X, X.length ≤ (cCL l X).length
  | [], _, X => by rw [cCL]; exact Nat.le_refl _
  | c :: l, h, X => by
    rw [cCL]
    exact Nat.le_trans (h c (List.mem_cons_self ..) X) (cCL_le l (fun x hx => h x (List.mem_cons_of_mem _ hx)) _)
theorem cCE_le (l : List Cmd) (h : ∀ x ∈ l, ∀ X, X.length ≤ (cC x X).length) (p : Nat) (Z : List OpS) : Z.length ≤ (cCE l p Z).length := by
  rcases Nat.eq_zero_or_pos l.length with e | e
  · obtain rfl := List.eq_nil_of_length_eq_zero e
    rw [cCE, patchL_len]; exact Nat.le_refl _
  · rw [cCE_p e, patchL_len]
    have := cCL_le l h (patchL (Z ++ [⟨5, 0, zeT, zeC⟩]) [p] (Z.length + 1 : Nat))
    rw [patchL_len, List.length_append, List.length_singleton] at this
    omega
theorem cC_le (c : Cmd) : ∀ X, X.length ≤ (cC c X).length := by
  induction c using Cmd.ind with
  | h c ih ih2 =>
    intro X
    rw [cC_eq]
    split
    · have h1 := tC_le c.test X
      have h2 := cCL_le c.thn ih (tC c.test X ++ [⟨4, 0, zeT, zeC⟩])
      have h3 := cCE_le c.els ih2 (tC c.test X).length (cCL c.thn (tC c.test X ++ [⟨4, 0, zeT, zeC⟩]))
      simp at h2
      omega
    · simp
end Go.Proofs.YtidldcfpmehpiaaGreatDoor

namespace Go.Proofs.YtidldcfpmehpiaaGreatDoor
set_option linter.unusedSimpArgs false
set_option linter.unusedVariables false
theorem sz_cmd (w : Nat) (k : Int) (ts : List Tx) : LeL true [.ptr w 1 0 0, .agg [.d (.int .i64 6), .d (.int .i64 0), .d (.int .i64 0), .d (.int .i64 0), .d (.int .i64 0), .nils, .nils, .d (.bool false), .d (.int .i64 0), .nils, .d (.int .i64 k), .d (.slc 1 (ts.map strD)), .d (.int .i64 0), .d (.int .i64 0), .d (.int .i64 0), .nils, .nils, .d (.bool false), .d (.int .i64 0), .nils, .nils, .nils]] [.ptr w 1 0 0, .agg (opA ⟨6, 0, zeT, .mk k ts zeT [] []⟩)] := by simp [go_sem, kidsL, cmdsL, LeL, LeA, LeD, opA, opD, zeT, zeC, tstD, cmdD, tstA, kidsD, thnD, elsD, Tst.kind, Tst.mat, Tst.part, Tst.names, Tst.keys, Tst.over, Tst.limit, Tst.kids, Cmd.kind, Cmd.texts, Cmd.test, Cmd.thn, Cmd.els]
theorem sz_h1 (w p : Nat) : LeL true [.ptr w 1 0 0, .d (.slc 1 [[.int .i64 (p : Nat)]])] [.ptr w 1 0 0, .d (.slc 1 (psD [p]))] := by simp [psD, LeL, LeA, LeD]
theorem psD_1 (p : Nat) : psD [p] = [[.int .i64 (p : Nat)]] := rfl
theorem cCL_all (l : List Cmd) (X : List OpS) : X.length ≤ (cCL l X).length := cCL_le l (fun x _ => cC_le x) X
attribute [local go_sem] cmdA cmdD tstD tstA List.map_cons List.map_nil List.length_map icast8 in
set_option maxRecDepth 20000 in
set_option maxHeartbeats 4000000 in
theorem all_s (T : Tbl) (w bb cc : Nat) (X : List OpS) (F : List (Nat × Ob)) (L : List Nat) (hX : cc = 0 → X = []) (l : List Cmd) (hl : (cCL l X).length ≤ 1000000) (hll : l.length * 208 ≤ 140737488355328) (okl : ∀ x ∈ l, x.Ok) (k3 : ∀ x ∈ l, x.kind = 2 → K3 x.test) (ihthn : ∀ y ∈ l, ∀ (bb cc : Nat) (X : List OpS) (F : List (Nat × Ob)) (L : List Nat), (cc = 0 → X = []) → (cCL y.thn X).length ≤ 1000000 → AC Tryz.prog T 29 [.ptr w 1 0 0, .d (.slc 12 (thnD y))] ⟨mkO w bb cc X F, L⟩ (fun x h => ∃ b2 c2, (c2 = 0 → cCL y.thn X = []) ∧ x = .ret (.tup []) ∧ h = ⟨mkO w b2 c2 (cCL y.thn X) F, L⟩)) (ihels : ∀ y ∈ l, ∀ (bb cc : Nat) (X : List OpS) (F : List (Nat × Ob)) (L : List Nat), (cc = 0 → X = []) → (cCL y.els X).length ≤ 1000000 → AC Tryz.prog T 29 [.ptr w 1 0 0, .d (.slc 12 (elsD y))] ⟨mkO w bb cc X F, L⟩ (fun x h => ∃ b2 c2, (c2 = 0 → cCL y.els X = []) ∧ x = .ret (.tup []) ∧ h = ⟨mkO w b2 c2 (cCL y.els X) F, L⟩)) : AC Tryz.prog T 29 [.ptr w 1 0 0, .d (.slc 12 (l.map cmdD))] (⟨mkO w bb cc X F, L⟩) (fun x h => ∃ b2 c2, (c2 = 0 → cCL l X = []) ∧ x = .ret (.tup []) ∧ h = ⟨mkO w b2 c2 (cCL l X) F, L⟩) := by
 refine ⟨Tryz.call29, ACalls.enterS Tryz.func29 rfl Tryz.ntmps29 rfl fun hb => ?_⟩
 simp only [go_sem, Tryz.results29]
 refine Zp 29 ?_
 refine AWp.block ?_
 simp only [go_sem]
 refine Zl 7 8 (fun n lc hc => ∃ (k b9 c9 : Nat) (Y : List OpS), n = l.length - k ∧ EqS lc [(10, .d (.int .i64 (k : Nat)))] ∧ EqS hc (⟨mkO w b9 c9 Y F, L⟩) ∧ (k ≤ l.length) ∧ (cCL l X = cCL (l.drop k) Y) ∧ (c9 = 0 → Y = [])) ?_ ?_
 · refine ⟨_, 0, bb, cc, X, rfl, ZE, ZE, ?_, ?_, ?_⟩
   all_goals (first | omega | rfl | exact hX)
 rintro _ _ _ ⟨k, b9, c9, Y, rfl, ⟨rfl⟩, ⟨rfl⟩, m1, m2, m3⟩
 simp only [go_sem]
 refine Zp 31 ?_
 refine Zs ?_
 refine Zc (fun hc0 => ?_) fun hc0 => ?_
 ·
  have hlt : k < l.length := by omega
  have ok := (okl _ (List.getElem_mem hlt)).inv
  have zf1 := fun d0_ => map_getD cmdD l k d0_ hlt
  refine Zk ?_
  refine Zs ?_
  refine AWp.block ?_
  refine Zx ?_
  try simp only [go_sem, zf1]
  (repeat (with_reducible refine And.intro ZS ?_))
  intro bz1
  first | intro fbz1 | have fbz1 := True.intro
  try simp only [freshL] at fbz1
  try simp only [go_sem, zf1, fbz1]
  (repeat (with_reducible refine And.intro ZS ?_))
  refine Zs ?_
  refine Zp 1055 ?_
  refine Zc (fun hc1 => ?_) fun hc1 => ?_
  ·
   have e2 : cCL l X = cCL (l.drop (k + 1)) (Y ++ [(⟨6, 0, zeT, .mk (l[k]).kind (l[k]).texts zeT [] []⟩ : OpS)]) := by rw [m2, cCL_s hlt, cC_eq, if_neg (by first | exact hc1 | omega)]
   have hb := cCL_all (l.drop (k + 1)) (Y ++ [(⟨6, 0, zeT, .mk (l[k]).kind (l[k]).texts zeT [] []⟩ : OpS)])
   rw [← e2, List.length_append, List.length_singleton] at hb
   refine AWp.dsC [] AgK.nil rfl [0, 1, 3, 4] 2 [5] [6, 7, 8] rfl (by kernel_rfl) rfl fun K_ hK_ => ?_
   try simp only [go_sem, zf1, fbz1]
   (repeat (with_reducible refine And.intro ZS ?_))
   try with_reducible refine Exists.intro _ (And.intro (by first | rfl | (simp only [go_sem, zf1, fbz1]; first | rfl | exact ⟨by omega, rfl⟩)) ?_)
   try simp only [go_sem, zf1, fbz1]
   refine DW.pcr rfl rfl rfl rfl (CloneT_p T _ ok.1) rfl rfl ?_
   try simp only [go_sem, zf1, fbz1]
   (repeat (with_reducible refine And.intro ZS ?_))
   try with_reducible refine And.intro (by first | rfl | (simp only [go_sem, zf1, fbz1]; first | done | rfl | exact ⟨by omega, rfl⟩)) ?_
   try simp only [go_sem, zf1, fbz1]
   (repeat (with_reducible refine And.intro ZS ?_))
   refine DW.acl rfl rfl rfl rfl (LeH.pm (mk_in [_] ..)) (by first | rfl | (simp only [go_sem, zf1, fbz1]; done) | (simp only [go_sem, zf1, fbz1]; rfl)) ((put_op T w _ _ (Y) _ _ (m3) (by omega) (⟨6, 0, zeT, .mk (l[k]).kind (l[k]).texts zeT [] []⟩ : OpS)).leA (by first | exact sz_op _ _ | exact sz_cmd _ _ _ | (simp [LeA]; done))) ?_
   rintro _ _ ⟨BB2, CC3, hCC3, rfl, rfl⟩
   try simp only [go_sem, zf1, fbz1]
   (repeat (with_reducible refine And.intro ZS ?_))
   refine hK_ _ _ ?_
   refine Zm 29 ?_
   refine AWp.exit (thenQ_e (blkQ_e (thenQ_n ?_)))
   try simp only [go_sem]
   try refine AWp.pm (mk_out [_] ..) ?_
   try simp only [List.cons_append, List.nil_append]
   refine Zr (thenQ_n ?_)
   refine Ze 7 8 [bz1] [] [] [] (.e ⟨_, ZM, k + 1, BB2, CC3, (Y ++ [(⟨6, 0, zeT, .mk (l[k]).kind (l[k]).texts zeT [] []⟩ : OpS)]), rfl, ZE, ?_, ?_, ?_, ?_⟩)
   · (try simp only [go_sem, zf1, fbz1]) <;> first | exact ⟨rfl⟩ | (constructor; first | rfl | (rw [e2]; done) | (rw [e2]; rfl) | (simp only [e2]; done) | (simp [e2]; done))
   all_goals first | omega | assumption | (intro h9; omega) | (intro h9; exfalso; have h8 := congrArg List.length (hCC3 h9); simp only [List.length_nil] at h8; omega)
  have hk2 : (l[k]).kind = 2 := by first | exact hc1 | omega
  have e1 : cCL l X = cCL (l.drop (k + 1)) (cCE (l[k]).els (tC (l[k]).test Y).length (cCL (l[k]).thn ((tC (l[k]).test Y) ++ [(⟨4, 0, zeT, zeC⟩ : OpS)]))) := by rw [m2, cCL_s hlt, cC_eq, if_pos hk2]
  have hb1 := cCL_all (l.drop (k + 1)) (cCE (l[k]).els (tC (l[k]).test Y).length (cCL (l[k]).thn ((tC (l[k]).test Y) ++ [(⟨4, 0, zeT, zeC⟩ : OpS)])))
  have hb2 := cCE_le (l[k]).els (fun x _ => cC_le x) (tC (l[k]).test Y).length (cCL (l[k]).thn ((tC (l[k]).test Y) ++ [(⟨4, 0, zeT, zeC⟩ : OpS)]))
  have hb3 := cCL_all (l[k]).thn ((tC (l[k]).test Y) ++ [(⟨4, 0, zeT, zeC⟩ : OpS)])
  rw [← e1] at hb1
  have hb4 : ((tC (l[k]).test Y) ++ [(⟨4, 0, zeT, zeC⟩ : OpS)]).length = (tC (l[k]).test Y).length + 1 := by rw [List.length_append, List.length_singleton]
  refine Zk ?_
  refine Zx ?_
  try simp only [go_sem, zf1, fbz1]
  (repeat (with_reducible refine And.intro ZS ?_))
  refine DW.acl rfl rfl rfl rfl (LeH.pm (mk_in [_] ..)) (by first | rfl | (simp only [go_sem, zf1, fbz1]; done) | (simp only [go_sem, zf1, fbz1]; rfl)) (test_c T w _ ok.2.1 (k3 _ (List.getElem_mem hlt) hk2) b9 c9 Y _ _ m3 (by omega)) ?_
  rintro _ _ ⟨BB4, CC5, hCC5, rfl, rfl⟩
  try simp only [go_sem, zf1, fbz1]
  (repeat (with_reducible refine And.intro ZS ?_))
  refine Zm 31 ?_
  try simp only [go_sem]
  try refine AWp.pm (mk_out [_] ..) ?_
  try simp only [List.cons_append, List.nil_append]
  refine Zx ?_
  try simp only [go_sem, zf1, fbz1]
  (repeat (with_reducible refine And.intro ZS ?_))
  refine DW.acl rfl rfl rfl rfl (LeH.pm (mk_in [_] ..)) (by first | rfl | (simp only [go_sem, zf1, fbz1]; done) | (simp only [go_sem, zf1, fbz1]; rfl)) ((put_op T w _ _ ((tC (l[k]).test Y)) _ _ (hCC5) (by omega) (⟨4, 0, zeT, zeC⟩ : OpS)).leA (by first | exact sz_op _ _ | exact sz_cmd _ _ _ | (simp [LeA]; done))) ?_
  rintro _ _ ⟨BB6, CC7, hCC7, rfl, rfl⟩
  try simp only [go_sem, zf1, fbz1]
  (repeat (with_reducible refine And.intro ZS ?_))
  try simp only [go_sem]
  try refine AWp.pm (mk_out [_] ..) ?_
  try simp only [List.cons_append, List.nil_append]
  refine Zx ?_
  try simp only [go_sem, zf1, fbz1]
  (repeat (with_reducible refine And.intro ZS ?_))
  refine DW.acl rfl rfl rfl rfl (LeH.pm (mk_in [_] ..)) (by first | rfl | (simp only [go_sem, zf1, fbz1]; done) | (simp only [go_sem, zf1, fbz1]; rfl)) (ihthn _ (List.getElem_mem hlt) _ _ ((tC (l[k]).test Y) ++ [(⟨4, 0, zeT, zeC⟩ : OpS)]) _ _ (fun h9 => by omega) (by omega)) ?_
  rintro _ _ ⟨BB8, CC9, hCC9, rfl, rfl⟩
  try simp only [go_sem, zf1, fbz1]
  (repeat (with_reducible refine And.intro ZS ?_))
  refine Zm 63 ?_
  try simp only [go_sem]
  try refine AWp.pm (mk_out [_] ..) ?_
  try simp only [List.cons_append, List.nil_append]
  refine Zp 575 ?_
  refine Zc (fun hc2 => ?_) fun hc2 => ?_
  ·
   have hel : 0 < (l[k]).els.length := by omega
   have e2 : cCE (l[k]).els (tC (l[k]).test Y).length (cCL (l[k]).thn ((tC (l[k]).test Y) ++ [(⟨4, 0, zeT, zeC⟩ : OpS)])) = patchL (cCL (l[k]).els (patchL ((cCL (l[k]).thn ((tC (l[k]).test Y) ++ [(⟨4, 0, zeT, zeC⟩ : OpS)])) ++ [(⟨5, 0, zeT, zeC⟩ : OpS)]) [(tC (l[k]).test Y).length] (((cCL (l[k]).thn ((tC (l[k]).test Y) ++ [(⟨4, 0, zeT, zeC⟩ : OpS)])) ++ [(⟨5, 0, zeT, zeC⟩ : OpS)]).length : Nat))) [(cCL (l[k]).thn ((tC (l[k]).test Y) ++ [(⟨4, 0, zeT, zeC⟩ : OpS)])).length] ((cCL (l[k]).els (patchL ((cCL (l[k]).thn ((tC (l[k]).test Y) ++ [(⟨4, 0, zeT, zeC⟩ : OpS)])) ++ [(⟨5, 0, zeT, zeC⟩ : OpS)]) [(tC (l[k]).test Y).length] (((cCL (l[k]).thn ((tC (l[k]).test Y) ++ [(⟨4, 0, zeT, zeC⟩ : OpS)])) ++ [(⟨5, 0, zeT, zeC⟩ : OpS)]).length : Nat))).length : Nat) := by
     rw [cCE_p hel, List.length_append, List.length_singleton]
   have hb5 : ((cCL (l[k]).thn ((tC (l[k]).test Y) ++ [(⟨4, 0, zeT, zeC⟩ : OpS)])) ++ [(⟨5, 0, zeT, zeC⟩ : OpS)]).length = (cCL (l[k]).thn ((tC (l[k]).test Y) ++ [(⟨4, 0, zeT, zeC⟩ : OpS)])).length + 1 := by rw [List.length_append, List.length_singleton]
   have hb6 : (patchL ((cCL (l[k]).thn ((tC (l[k]).test Y) ++ [(⟨4, 0, zeT, zeC⟩ : OpS)])) ++ [(⟨5, 0, zeT, zeC⟩ : OpS)]) [(tC (l[k]).test Y).length] (((cCL (l[k]).thn ((tC (l[k]).test Y) ++ [(⟨4, 0, zeT, zeC⟩ : OpS)])) ++ [(⟨5, 0, zeT, zeC⟩ : OpS)]).length : Nat)).length = ((cCL (l[k]).thn ((tC (l[k]).test Y) ++ [(⟨4, 0, zeT, zeC⟩ : OpS)])) ++ [(⟨5, 0, zeT, zeC⟩ : OpS)]).length := by rw [patchL_len]
   have hb7 := cCL_all (l[k]).els (patchL ((cCL (l[k]).thn ((tC (l[k]).test Y) ++ [(⟨4, 0, zeT, zeC⟩ : OpS)])) ++ [(⟨5, 0, zeT, zeC⟩ : OpS)]) [(tC (l[k]).test Y).length] (((cCL (l[k]).thn ((tC (l[k]).test Y) ++ [(⟨4, 0, zeT, zeC⟩ : OpS)])) ++ [(⟨5, 0, zeT, zeC⟩ : OpS)]).length : Nat))
   have hb8 : (cCE (l[k]).els (tC (l[k]).test Y).length (cCL (l[k]).thn ((tC (l[k]).test Y) ++ [(⟨4, 0, zeT, zeC⟩ : OpS)]))).length = (cCL (l[k]).els (patchL ((cCL (l[k]).thn ((tC (l[k]).test Y) ++ [(⟨4, 0, zeT, zeC⟩ : OpS)])) ++ [(⟨5, 0, zeT, zeC⟩ : OpS)]) [(tC (l[k]).test Y).length] (((cCL (l[k]).thn ((tC (l[k]).test Y) ++ [(⟨4, 0, zeT, zeC⟩ : OpS)])) ++ [(⟨5, 0, zeT, zeC⟩ : OpS)]).length : Nat))).length := by rw [e2, patchL_len]
   try simp only [go_sem]
   try refine AWp.pm (mk_out [_] ..) ?_
   try simp only [List.cons_append, List.nil_append]
   refine Zx ?_
   try simp only [go_sem, zf1, fbz1]
   (repeat (with_reducible refine And.intro ZS ?_))
   refine DW.acl rfl rfl rfl rfl (LeH.pm (mk_in [_] ..)) (by first | rfl | (simp only [go_sem, zf1, fbz1]; done) | (simp only [go_sem, zf1, fbz1]; rfl)) ((put_op T w _ _ ((cCL (l[k]).thn ((tC (l[k]).test Y) ++ [(⟨4, 0, zeT, zeC⟩ : OpS)]))) _ _ (hCC9) (by omega) (⟨5, 0, zeT, zeC⟩ : OpS)).leA (by first | exact sz_op _ _ | exact sz_cmd _ _ _ | (simp [LeA]; done))) ?_
   rintro _ _ ⟨BB10, CC11, hCC11, rfl, rfl⟩
   try simp only [go_sem, zf1, fbz1]
   (repeat (with_reducible refine And.intro ZS ?_))
   refine Zm 127 ?_
   try simp only [go_sem]
   try refine AWp.pm (mk_out [_] ..) ?_
   try simp only [List.cons_append, List.nil_append]
   refine Zx ?_
   try simp only [go_sem, zf1, fbz1]
   (repeat (with_reducible refine And.intro ZS ?_))
   refine DW.acl rfl rfl rfl rfl (LeH.pm (mk_in [_] ..)) (by first | rfl | (simp only [go_sem, zf1, fbz1]; done) | (simp only [go_sem, zf1, fbz1]; rfl)) ((here_op T w _ _ (((cCL (l[k]).thn ((tC (l[k]).test Y) ++ [(⟨4, 0, zeT, zeC⟩ : OpS)])) ++ [(⟨5, 0, zeT, zeC⟩ : OpS)])) _ _ (fun h9 => by omega) (by omega) [(tC (l[k]).test Y).length] (by intro q hq; simp only [List.mem_singleton] at hq; omega) (by simp)).leA (by first | exact sz_h1 _ _ | exact sz_here _ _ _ | (simp [psD_1, LeL, LeA, LeD]; done))) ?_
   rintro _ _ ⟨rfl, rfl⟩
   try simp only [go_sem, zf1, fbz1]
   (repeat (with_reducible refine And.intro ZS ?_))
   refine Zm 123 ?_
   try simp only [go_sem]
   try refine AWp.pm (mk_out [_] ..) ?_
   try simp only [List.cons_append, List.nil_append]
   refine Zx ?_
   try simp only [go_sem, zf1, fbz1]
   (repeat (with_reducible refine And.intro ZS ?_))
   refine DW.acl rfl rfl rfl rfl (LeH.pm (mk_in [_] ..)) (by first | rfl | (simp only [go_sem, zf1, fbz1]; done) | (simp only [go_sem, zf1, fbz1]; rfl)) (ihels _ (List.getElem_mem hlt) _ _ (patchL ((cCL (l[k]).thn ((tC (l[k]).test Y) ++ [(⟨4, 0, zeT, zeC⟩ : OpS)])) ++ [(⟨5, 0, zeT, zeC⟩ : OpS)]) [(tC (l[k]).test Y).length] (((cCL (l[k]).thn ((tC (l[k]).test Y) ++ [(⟨4, 0, zeT, zeC⟩ : OpS)])) ++ [(⟨5, 0, zeT, zeC⟩ : OpS)]).length : Nat)) _ _ (fun h9 => by omega) (by omega)) ?_
   rintro _ _ ⟨BB12, CC13, hCC13, rfl, rfl⟩
   try simp only [go_sem, zf1, fbz1]
   (repeat (with_reducible refine And.intro ZS ?_))
   refine Zm 61 ?_
   try simp only [go_sem]
   try refine AWp.pm (mk_out [_] ..) ?_
   try simp only [List.cons_append, List.nil_append]
   refine Zq fun K_ k_ => ?_
   try simp only [go_sem, zf1, fbz1]
   (repeat (with_reducible refine And.intro ZS ?_))
   refine DW.acl rfl rfl rfl rfl (LeH.pm (mk_in [_] ..)) (by first | rfl | (simp only [go_sem, zf1, fbz1]; done) | (simp only [go_sem, zf1, fbz1]; rfl)) ((here_op T w _ _ (cCL (l[k]).els (patchL ((cCL (l[k]).thn ((tC (l[k]).test Y) ++ [(⟨4, 0, zeT, zeC⟩ : OpS)])) ++ [(⟨5, 0, zeT, zeC⟩ : OpS)]) [(tC (l[k]).test Y).length] (((cCL (l[k]).thn ((tC (l[k]).test Y) ++ [(⟨4, 0, zeT, zeC⟩ : OpS)])) ++ [(⟨5, 0, zeT, zeC⟩ : OpS)]).length : Nat))) _ _ (hCC13) (by omega) [(cCL (l[k]).thn ((tC (l[k]).test Y) ++ [(⟨4, 0, zeT, zeC⟩ : OpS)])).length] (by intro q hq; simp only [List.mem_singleton] at hq; omega) (by simp)).leA (by first | exact sz_h1 _ _ | exact sz_here _ _ _ | (simp [psD_1, LeL, LeA, LeD]; done))) ?_
   rintro _ _ ⟨rfl, rfl⟩
   try simp only [go_sem, zf1, fbz1]
   (repeat (with_reducible refine And.intro ZS ?_))
   refine k_ _ _ (blkQ_n (thenQ_n ?_))
   refine Zm 29 ?_
   try simp only [go_sem]
   try refine AWp.pm (mk_out [_] ..) ?_
   try simp only [List.cons_append, List.nil_append]
   refine Zr (thenQ_n ?_)
   refine Ze 7 8 [bz1] [] [] [] (.e ⟨_, ZM, k + 1, BB12, CC13, (cCE (l[k]).els (tC (l[k]).test Y).length (cCL (l[k]).thn ((tC (l[k]).test Y) ++ [(⟨4, 0, zeT, zeC⟩ : OpS)]))), rfl, ZE, ?_, ?_, ?_, ?_⟩)
   · (try simp only [go_sem, zf1, fbz1]) <;> first | exact ⟨rfl⟩ | (constructor; first | rfl | (rw [e2]; done) | (rw [e2]; rfl) | (simp only [e2]; done) | (simp [e2]; done))
   all_goals first | omega | assumption | (intro h9; omega) | (intro h9; exfalso; have h8 := congrArg List.length (hCC13 h9); simp only [List.length_nil] at h8; omega)
  have hel : (l[k]).els = [] := List.eq_nil_of_length_eq_zero (by omega)
  have e2 : cCE (l[k]).els (tC (l[k]).test Y).length (cCL (l[k]).thn ((tC (l[k]).test Y) ++ [(⟨4, 0, zeT, zeC⟩ : OpS)])) = patchL (cCL (l[k]).thn ((tC (l[k]).test Y) ++ [(⟨4, 0, zeT, zeC⟩ : OpS)])) [(tC (l[k]).test Y).length] ((cCL (l[k]).thn ((tC (l[k]).test Y) ++ [(⟨4, 0, zeT, zeC⟩ : OpS)])).length : Nat) := by rw [hel, cCE]
  try simp only [go_sem]
  try refine AWp.pm (mk_out [_] ..) ?_
  try simp only [List.cons_append, List.nil_append]
  refine Zq fun K_ k_ => ?_
  try simp only [go_sem, zf1, fbz1]
  (repeat (with_reducible refine And.intro ZS ?_))
  refine DW.acl rfl rfl rfl rfl (LeH.pm (mk_in [_] ..)) (by first | rfl | (simp only [go_sem, zf1, fbz1]; done) | (simp only [go_sem, zf1, fbz1]; rfl)) ((here_op T w _ _ ((cCL (l[k]).thn ((tC (l[k]).test Y) ++ [(⟨4, 0, zeT, zeC⟩ : OpS)]))) _ _ (hCC9) (by omega) [(tC (l[k]).test Y).length] (by intro q hq; simp only [List.mem_singleton] at hq; omega) (by simp)).leA (by first | exact sz_h1 _ _ | exact sz_here _ _ _ | (simp [psD_1, LeL, LeA, LeD]; done))) ?_
  rintro _ _ ⟨rfl, rfl⟩
  try simp only [go_sem, zf1, fbz1]
  (repeat (with_reducible refine And.intro ZS ?_))
  refine k_ _ _ (blkQ_n (thenQ_n ?_))
  refine Zm 57 ?_
  try simp only [go_sem]
  try refine AWp.pm (mk_out [_] ..) ?_
  try simp only [List.cons_append, List.nil_append]
  refine Zr (thenQ_n ?_)
  refine Ze 7 8 [bz1] [] [] [] (.e ⟨_, ZM, k + 1, BB8, CC9, (cCE (l[k]).els (tC (l[k]).test Y).length (cCL (l[k]).thn ((tC (l[k]).test Y) ++ [(⟨4, 0, zeT, zeC⟩ : OpS)]))), rfl, ZE, ?_, ?_, ?_, ?_⟩)
  · (try simp only [go_sem, zf1, fbz1]) <;> first | exact ⟨rfl⟩ | (constructor; first | rfl | (rw [e2]; done) | (rw [e2]; rfl) | (simp only [e2]; done) | (simp [e2]; done))
  all_goals first | omega | assumption | (intro h9; omega) | (intro h9; exfalso; have h8 := congrArg List.length (hCC9 h9); simp only [List.length_nil] at h8; omega)
 have e2 : cCL l X = Y := by
   rw [m2, List.drop_eq_nil_of_le (by omega : l.length ≤ k), cCL]
 refine AWp.exit (thenQ_e (thenQ_e (blkQ_e ?_)))
 apply endW_n [] [] [] [] (by (try simp only [go_sem]) <;> rfl)
 · exact ⟨b9, c9, by rw [e2]; exact m3, rfl, by first | (rw [e2]; done) | (rw [e2]; rfl)⟩
 · simp [LeA, LeL]
end Go.Proofs.YtidldcfpmehpiaaGreatDoor

namespace Go.Proofs.YtidldcfpmehpiaaGreatDoor
open Go.Sem
set_option linter.unusedSimpArgs false
set_option linter.unusedVariables false
/-- every turned test of a condition has a kid -/
inductive C3 : Cmd → Prop where
  | mk {c : Cmd} (h : c.kind = 2 → K3 c.test) (h1 : ∀ x ∈ c.thn, C3 x) (h2 : ∀ x ∈ c.els, C3 x) : C3 c
theorem C3.inv {c : Cmd} (h : C3 c) : (c.kind = 2 → K3 c.test) ∧ (∀ x ∈ c.thn, C3 x) ∧ ∀ x ∈ c.els, C3 x := by
  cases h; exact ⟨by assumption, by assumption, by assumption⟩
def AllC (T : Tbl) (w : Nat) (l : List Cmd) : Prop := ∀ (bb cc : Nat) (X : List OpS) (F : List (Nat × Ob)) (L : List Nat), (cc = 0 → X = []) → (cCL l X).length ≤ 1000000 → AC Tryz.prog T 29 [.ptr w 1 0 0, .d (.slc 12 (l.map cmdD))] ⟨mkO w bb cc X F, L⟩ (fun x h => ∃ b2 c2, (c2 = 0 → cCL l X = []) ∧ x = .ret (.tup []) ∧ h = ⟨mkO w b2 c2 (cCL l X) F, L⟩)
theorem allC_of (T : Tbl) (w : Nat) (l : List Cmd) (hll : l.length * 208 ≤ 140737488355328) (okl : ∀ x ∈ l, x.Ok) (k3 : ∀ x ∈ l, C3 x) (ih : ∀ x ∈ l, AllC T w x.thn ∧ AllC T w x.els) : AllC T w l := by
  intro bb cc X F L hX hl
  refine all_s T w bb cc X F L hX l hl hll okl (fun x hx => (k3 x hx).inv.1) (fun y hy bb cc X F L hX hl => ?_) fun y hy bb cc X F L hX hl => ?_
  · rw [thnD_eq]; exact (ih y hy).1 bb cc X F L hX hl
  · rw [elsD_eq]; exact (ih y hy).2 bb cc X F L hX hl
theorem all_i (T : Tbl) (w : Nat) (c : Cmd) : c.Ok → C3 c → AllC T w c.thn ∧ AllC T w c.els := by
  induction c using Cmd.ind with
  | h c ih ih2 =>
    intro ok k3
    obtain ⟨o1, o2, o3, o4, o5, o6⟩ := ok.inv
    obtain ⟨q1, q2, q3⟩ := k3.inv
    exact ⟨allC_of T w _ o3 o5 q2 fun x hx => ih x hx (o5 x hx) (q2 x hx), allC_of T w _ o4 o6 q3 fun x hx => ih2 x hx (o6 x hx) (q3 x hx)⟩
theorem all_c (T : Tbl) (w : Nat) (l : List Cmd) (hll : l.length * 208 ≤ 140737488355328) (okl : ∀ x ∈ l, x.Ok) (k3 : ∀ x ∈ l, C3 x) : AllC T w l := allC_of T w l hll okl k3 fun x hx => all_i T w x (okl x hx) (k3 x hx)
end Go.Proofs.YtidldcfpmehpiaaGreatDoor

namespace Go.Proofs.YtidldcfpmehpiaaGreatDoor
set_option linter.unusedSimpArgs false
set_option linter.unusedVariables false
abbrev envT : List UInt8 := [101, 110, 118, 101, 108, 111, 112, 101]
abbrev fromT : List UInt8 := [102, 114, 111, 109]
abbrev toT : List UInt8 := [116, 111]
/-- an extension that is asked for -/
def needE (ks : List (List UInt8)) (s : List UInt8) : Int := if s ∈ ks then 0 else 8
set_option maxRecDepth 4000 in
set_option maxHeartbeats 1000000 in
theorem need_c (T : Tbl) (bj t : Nat) (ks : List (List UInt8)) (s : List UInt8) (F : List (Nat × Ob)) (L : List Nat) : AC Tryz.prog T 200 [.ptr bj 1 0 0, .d (.str s)] (⟨(bj, ⟨1, 1, [[.mp t ks]]⟩) :: F, t :: L⟩) (fun x h => x = .ret (.d (.int .i64 (needE ks s))) ∧ h = ⟨(bj, ⟨1, 1, [[.mp t ks]]⟩) :: F, t :: L⟩) := by
 refine ⟨Tryz.call200, ACalls.enterS Tryz.func200 rfl Tryz.ntmps200 rfl fun hb => ?_⟩
 simp only [go_sem, Tryz.results200]
 refine Zp 3 ?_
 refine Zs ?_
 refine Zx ?_
 try simp only [go_sem]
 (repeat (with_reducible refine And.intro ZS ?_))
 refine DW.lookM (t := t) (ks := ks) (s := s) rfl rfl Tryz.underlying119 Tryz.underlying9 (fun w => rfl) rfl rfl (by simp) ?_
 try simp only [go_sem]
 (repeat (with_reducible refine And.intro ZS ?_))
 intro b5
 first | intro fb5 | have fb5 := True.intro
 try simp only [freshL] at fb5
 try simp only [go_sem, fb5]
 (repeat (with_reducible refine And.intro ZS ?_))
 refine DW.store0 rfl rfl (fun w => rfl) rfl rfl ?_
 try simp only [go_sem, fb5]
 (repeat (with_reducible refine And.intro ZS ?_))
 refine Zm 8 ?_
 refine Zp 4 ?_
 refine Zc (fun hc0 => ?_) fun hc0 => ?_
 ·
  refine Zp 1 ?_
  refine AWp.ret ?_
  try simp only [thenQ, blkQ]
  apply endW_r [b5] [] [bj] [] (by (try simp only [go_sem, fb5]); rfl)
  · rw [needE, if_neg (by simpa using hc0)]
    exact ⟨rfl, by first | rfl | (simp only [go_sem, fb5]; done) | (simp only [go_sem, fb5]; rfl)⟩
  · simp [LeA, LeD]
 refine Zk ?_
 refine Zp 1 ?_
 refine AWp.ret ?_
 try simp only [thenQ, blkQ]
 apply endW_r [b5] [] [bj] [] (by (try simp only [go_sem, fb5]); rfl)
 · rw [needE, if_pos (by simpa using hc0)]
   exact ⟨rfl, by first | rfl | (simp only [go_sem, fb5]; done) | (simp only [go_sem, fb5]; rfl)⟩
 · simp [LeA, LeD]
end Go.Proofs.YtidldcfpmehpiaaGreatDoor

namespace Go.Proofs.YtidldcfpmehpiaaGreatDoor
set_option linter.unusedSimpArgs false
set_option linter.unusedVariables false
/-- names of an envelope that may be asked for -/
def namesE : List (List UInt8) → Int
  | [] => 0
  | s :: l => if ¬ s = fromT ∧ ¬ s = toT then 7 else namesE l
def sizeE : List (List UInt8) → Int
  | [] => 0
  | s :: l => if 100 < s.length then 1 else sizeE l
mutual
/-- may a test be, behind what is required -/
def tstE (ks : List (List UInt8)) : Tst → Int
  | .mk k _ _ ns ky _ _ kids => if k = 8 ∧ ¬ envT ∈ ks then 8 else if k = 8 ∧ ¬ namesE ns = 0 then 7 else if ¬ sizeE ns = 0 then 1 else if ¬ sizeE ky = 0 then 1 else tstEL ks kids
def tstEL (ks : List (List UInt8)) : List Tst → Int
  | [] => 0
  | t :: l => if ¬ tstE ks t = 0 then tstE ks t else tstEL ks l
end
theorem tstE_eq (ks : List (List UInt8)) (t : Tst) : tstE ks t = if t.kind = 8 ∧ ¬ envT ∈ ks then 8 else if t.kind = 8 ∧ ¬ namesE t.names = 0 then 7 else if ¬ sizeE t.names = 0 then 1 else if ¬ sizeE t.keys = 0 then 1 else tstEL ks t.kids := by cases t; rw [tstE]; rfl
theorem namesE_t {l : List (List UInt8)} {k : Nat} (h : k < l.length) (hc : ¬ l[k] = fromT ∧ ¬ l[k] = toT) : namesE (l.drop k) = 7 := by rw [List.drop_eq_getElem_cons h, namesE, if_pos hc]
theorem namesE_f {l : List (List UInt8)} {k : Nat} (h : k < l.length) (hc : ¬ (¬ l[k] = fromT ∧ ¬ l[k] = toT)) : namesE (l.drop k) = namesE (l.drop (k + 1)) := by rw [List.drop_eq_getElem_cons h, namesE, if_neg hc]
theorem namesE_e {l : List (List UInt8)} {k : Nat} (h : l.length ≤ k) : namesE (l.drop k) = 0 := by rw [List.drop_eq_nil_of_le h]; rfl
theorem sizeE_t {l : List (List UInt8)} {k : Nat} (h : k < l.length) (hc : 100 < (l[k]).length) : sizeE (l.drop k) = 1 := by rw [List.drop_eq_getElem_cons h, sizeE, if_pos hc]
theorem sizeE_f {l : List (List UInt8)} {k : Nat} (h : k < l.length) (hc : ¬ 100 < (l[k]).length) : sizeE (l.drop k) = sizeE (l.drop (k + 1)) := by rw [List.drop_eq_getElem_cons h, sizeE, if_neg hc]
theorem sizeE_e {l : List (List UInt8)} {k : Nat} (h : l.length ≤ k) : sizeE (l.drop k) = 0 := by rw [List.drop_eq_nil_of_le h]; rfl
theorem tstEL_t {ks : List (List UInt8)} {l : List Tst} {k : Nat} (h : k < l.length) (hc : ¬ tstE ks (l[k]) = 0) : tstEL ks (l.drop k) = tstE ks (l[k]) := by rw [List.drop_eq_getElem_cons h, tstEL, if_pos hc]
theorem tstEL_f {ks : List (List UInt8)} {l : List Tst} {k : Nat} (h : k < l.length) (hc : tstE ks (l[k]) = 0) : tstEL ks (l.drop k) = tstEL ks (l.drop (k + 1)) := by rw [List.drop_eq_getElem_cons h, tstEL, if_neg (fun h9 => h9 hc)]
theorem tstEL_e {ks : List (List UInt8)} {l : List Tst} {k : Nat} (h : l.length ≤ k) : tstEL ks (l.drop k) = 0 := by rw [List.drop_eq_nil_of_le h]; rfl
attribute [local go_sem] tstA icast8 strD tstD in
set_option maxRecDepth 4000 in
set_option maxHeartbeats 1000000 in
theorem jtest_s (T : Tbl) (bj t : Nat) (ks : List (List UInt8)) (tt : Tst) (ok : tt.Ok) (ih : ∀ y ∈ tt.kids, ∀ (F : List (Nat × Ob)) (L : List Nat), AC Tryz.prog T 199 [.ptr bj 1 0 0, .agg (tstA y)] ⟨(bj, ⟨1, 1, [[.mp t ks]]⟩) :: F, t :: L⟩ (fun x h => x = .ret (.d (.int .i64 (tstE ks y))) ∧ h = ⟨(bj, ⟨1, 1, [[.mp t ks]]⟩) :: F, t :: L⟩)) (F : List (Nat × Ob)) (L : List Nat) : AC Tryz.prog T 199 [.ptr bj 1 0 0, .agg (tstA tt)] (⟨(bj, ⟨1, 1, [[.mp t ks]]⟩) :: F, t :: L⟩) (fun x h => x = .ret (.d (.int .i64 (tstE ks tt))) ∧ h = ⟨(bj, ⟨1, 1, [[.mp t ks]]⟩) :: F, t :: L⟩) := by
 refine ⟨Tryz.call199, ACalls.enterS Tryz.func199 rfl Tryz.ntmps199 rfl fun hb => ?_⟩
 obtain ⟨s1, s2, s3, s4⟩ := ok.inv
 simp only [go_sem, Tryz.results199]
 refine Zx ?_
 try simp only [go_sem]
 (repeat (with_reducible refine And.intro ZS ?_))
 intro b3
 first | intro fb3 | have fb3 := True.intro
 try simp only [freshL] at fb3
 try simp only [go_sem, fb3]
 (repeat (with_reducible refine And.intro ZS ?_))
 refine Zs ?_
 refine Zp 69 ?_
 refine Zc (fun hc0 => ?_) fun hc0 => ?_
 ·
  refine Zs ?_
  refine Zx ?_
  try simp only [go_sem, fb3]
  (repeat (with_reducible refine And.intro ZS ?_))
  refine DW.acp [bj] [t] rfl rfl rfl rfl (by (try simp only [go_sem, fb3]); rfl) rfl (need_c T bj t ks envT _ _) ?_
  rintro _ _ ⟨rfl, rfl⟩
  try simp only [go_sem, fb3]
  (repeat (with_reducible refine And.intro ZS ?_))
  refine Zp 135 ?_
  refine Zc (fun hc1 => ?_) fun hc1 => ?_
  ·
   have he : tt.kind = 8 ∧ ¬ envT ∈ ks := ⟨hc0, fun h9 => hc1 (if_pos h9)⟩
   refine Zp 4 ?_
   refine AWp.ret ?_
   try simp only [thenQ, blkQ]
   apply endW_r [b3] [] [bj] [t] (by (try simp only [go_sem, fb3]); rfl)
   · rw [tstE_eq, if_pos he]
     exact ⟨rfl, by first | rfl | (simp only [go_sem, fb3]; done) | (simp only [go_sem, fb3]; rfl)⟩
   · simp [LeA, LeD, needE, he.2]
  have he : envT ∈ ks := Decidable.byContradiction fun h9 => by rw [needE, if_neg h9] at hc1; omega
  refine Zk ?_
  refine Zp 227 ?_
  refine AWp.block ?_
  simp only [go_sem]
  refine Zl 15 16 (fun n lc hc => ∃ (k : Nat), n = tt.names.length - k ∧ EqS lc [(26, .d (.int .i64 (k : Nat)))] ∧ EqS hc (⟨(bj, ⟨1, 1, [[.mp t ks]]⟩) :: (b3, ⟨8, 1, [[.d (.int .i64 tt.kind), .d (.int .i64 tt.mat), .d (.int .i64 tt.part), .d (.slc 1 (tt.names.map strD)), .d (.slc 1 (tt.keys.map strD)), .d (.bool tt.over), .d (.int .i64 tt.limit), .d (.slc 8 (kidsD tt))]]⟩) :: F, t :: L⟩) ∧ (k ≤ tt.names.length) ∧ (namesE tt.names = namesE (tt.names.drop k))) ?_ ?_
  · refine ⟨_, 0, rfl, ZE, ZE, ?_, ?_⟩
    all_goals (first | omega | rfl)
  rintro _ _ _ ⟨k, rfl, ⟨rfl⟩, ⟨rfl⟩, m1, m2⟩
  simp only [go_sem]
  refine Zp 63 ?_
  refine Zs ?_
  refine Zc (fun hc2 => ?_) fun hc2 => ?_
  ·
   have hlt : k < tt.names.length := by omega
   have hki : (k : Int) < (tt.names.length : Int) := by omega
   have zf1 := fun d0_ => map_getD strD tt.names k d0_ hlt
   refine Zk ?_
   refine Zs ?_
   refine AWp.block ?_
   refine Zp 63 ?_
   refine Zp 2107 ?_
   refine Zc (fun hc3 => ?_) fun hc3 => ?_
   ·
    refine Zp 4 ?_
    refine AWp.ret ?_
    try simp only [thenQ, blkQ]
    apply endW_r [b3] [] [bj] [t] (by (try simp only [go_sem, fb3, zf1, hki]); rfl)
    · rw [tstE_eq, if_neg (fun h9 => h9.2 he), if_pos ⟨hc0, by rw [m2, namesE_t hlt hc3]; decide⟩]
      exact ⟨rfl, by first | rfl | (simp only [go_sem, fb3, zf1, hki]; done) | (simp only [go_sem, fb3, zf1, hki]; rfl)⟩
    · simp [LeA, LeD]
   have hbad : ¬ (¬ tt.names[k] = fromT ∧ ¬ tt.names[k] = toT) := by rintro ⟨h8, h9⟩; first | exact hc3 ⟨h8, h9⟩ | exact hc3 h8 h9 | exact hc3.elim (fun h7 => h8 h7) (fun h7 => h9 h7) | (simp [h8, h9] at hc3)
   refine AWp.skip (blkQ_n (thenQ_n ?_))
   refine Zr (thenQ_n ?_)
   refine Ze 15 16 [] [] [bj, b3] [] (.e ⟨_, ZM, k + 1, rfl, ZE, ZE, ?_, ?_⟩)
   · omega
   · rw [m2, namesE_f hlt hbad]
  have hn : namesE tt.names = 0 := by rw [m2, namesE_e (by omega)]
  clear m1 m2
  refine AWp.exit (thenQ_e (thenQ_e (blkQ_e (thenQ_n ?_))))
  refine Zm 3 ?_
  refine Zs ?_
  refine Zp 195 ?_
  simp only [go_sem]
  refine AWp.ord [] [] [bj] [] (by (try simp only [go_sem, fb3]); rfl) ?_
  refine AWp.block ?_
  refine Zl 7 8 (fun n lc hc => ∃ (k : Nat), n = 2 - k ∧ EqS lc [(42, .d (.int .i64 (k : Nat)))] ∧ EqS hc (⟨(bj, ⟨1, 1, [[.mp t ks]]⟩) :: (b3, ⟨8, 1, [[.d (.int .i64 tt.kind), .d (.int .i64 tt.mat), .d (.int .i64 tt.part), .d (.slc 1 (tt.names.map strD)), .d (.slc 1 (tt.keys.map strD)), .d (.bool tt.over), .d (.int .i64 tt.limit), .d (.slc 8 (kidsD tt))]]⟩) :: F, t :: L⟩) ∧ (k ≤ 2) ∧ (1 ≤ k → sizeE tt.names = 0) ∧ (2 ≤ k → sizeE tt.keys = 0)) ?_ ?_
  · refine ⟨_, 0, rfl, ZE, ZE, ?_, ?_, ?_⟩
    all_goals (first | omega | (intro h9; omega))
  rintro _ _ _ ⟨k, rfl, ⟨rfl⟩, ⟨rfl⟩, z0, z1, z2⟩
  simp only [go_sem]
  refine Zp 31 ?_
  refine Zs ?_
  refine Zc (fun hc4 => ?_) fun hc4 => ?_
  ·
   refine Zk ?_
   refine Zs ?_
   refine AWp.block ?_
   obtain rfl | rfl : k = 0 ∨ k = 1 := by omega
   ·
    refine Zp 31 ?_
    refine Zp 251 ?_
    refine AWp.block ?_
    simp only [go_sem]
    refine Zl 63 64 (fun n lc hc => ∃ (q : Nat), n = tt.names.length - q ∧ EqS lc [(47, .d (.int .i64 (q : Nat)))] ∧ EqS hc (⟨(bj, ⟨1, 1, [[.mp t ks]]⟩) :: (b3, ⟨8, 1, [[.d (.int .i64 tt.kind), .d (.int .i64 tt.mat), .d (.int .i64 tt.part), .d (.slc 1 (tt.names.map strD)), .d (.slc 1 (tt.keys.map strD)), .d (.bool tt.over), .d (.int .i64 tt.limit), .d (.slc 8 (kidsD tt))]]⟩) :: F, t :: L⟩) ∧ (q ≤ tt.names.length) ∧ (sizeE tt.names = sizeE (tt.names.drop q))) ?_ ?_
    · refine ⟨_, 0, rfl, ZE, ZE, ?_, ?_⟩
      all_goals (first | omega | rfl)
    rintro _ _ _ ⟨q, rfl, ⟨rfl⟩, ⟨rfl⟩, m1, m2⟩
    simp only [go_sem]
    refine Zp 255 ?_
    refine Zs ?_
    refine Zc (fun hc5 => ?_) fun hc5 => ?_
    ·
     have hlt : q < tt.names.length := by omega
     have hqi : (q : Int) < (tt.names.length : Int) := by omega
     have zf2 := fun d0_ => map_getD strD tt.names q d0_ hlt
     refine Zk ?_
     refine Zs ?_
     refine AWp.block ?_
     refine Zp 255 ?_
     refine Zp 1275 ?_
     refine Zc (fun hc6 => ?_) fun hc6 => ?_
     ·
      have hsz : ¬ sizeE tt.names = 0 := by rw [m2, sizeE_t hlt (by omega)]; decide
      refine Zp 4 ?_
      refine AWp.ret ?_
      try simp only [thenQ, blkQ]
      apply endW_r [b3] [] [bj] [t] (by (try simp only [go_sem, fb3, zf2, hqi]); rfl)
      · rw [tstE_eq, if_neg (fun h9 => h9.2 he), if_neg (fun h9 => h9.2 hn), if_pos hsz]
        exact ⟨rfl, by first | rfl | (simp only [go_sem, fb3, zf2, hqi]; done) | (simp only [go_sem, fb3, zf2, hqi]; rfl)⟩
      · simp [LeA, LeD]
     have hs : ¬ 100 < (tt.names[q]).length := by omega
     refine AWp.skip (blkQ_n (thenQ_n ?_))
     refine Zr (thenQ_n ?_)
     refine Ze 63 64 [] [] [bj, b3] [] (.e ⟨_, ZM, q + 1, rfl, ZE, ZE, ?_, ?_⟩)
     · omega
     · rw [m2, sizeE_f hlt hs]
    have hsz : sizeE tt.names = 0 := by rw [m2, sizeE_e (by omega)]
    refine AWp.exit (thenQ_e (thenQ_e (blkQ_e (blkQ_n (thenQ_n ?_)))))
    refine Zm 15 ?_
    refine Zr (thenQ_n ?_)
    refine Ze 7 8 [] [] [bj, b3] [] (.e ⟨_, ZM, 1, rfl, ZE, ZE, ?_, ?_, ?_⟩)
    · omega
    · intro h9; exact hsz
    · intro h9; omega
   refine Zp 31 ?_
   refine Zp 251 ?_
   refine AWp.block ?_
   simp only [go_sem]
   refine Zl 63 64 (fun n lc hc => ∃ (q : Nat), n = tt.keys.length - q ∧ EqS lc [(47, .d (.int .i64 (q : Nat)))] ∧ EqS hc (⟨(bj, ⟨1, 1, [[.mp t ks]]⟩) :: (b3, ⟨8, 1, [[.d (.int .i64 tt.kind), .d (.int .i64 tt.mat), .d (.int .i64 tt.part), .d (.slc 1 (tt.names.map strD)), .d (.slc 1 (tt.keys.map strD)), .d (.bool tt.over), .d (.int .i64 tt.limit), .d (.slc 8 (kidsD tt))]]⟩) :: F, t :: L⟩) ∧ (q ≤ tt.keys.length) ∧ (sizeE tt.keys = sizeE (tt.keys.drop q))) ?_ ?_
   · refine ⟨_, 0, rfl, ZE, ZE, ?_, ?_⟩
     all_goals (first | omega | rfl)
   rintro _ _ _ ⟨q, rfl, ⟨rfl⟩, ⟨rfl⟩, m1, m2⟩
   simp only [go_sem]
   refine Zp 255 ?_
   refine Zs ?_
   refine Zc (fun hc5 => ?_) fun hc5 => ?_
   ·
    have hlt : q < tt.keys.length := by omega
    have hqi : (q : Int) < (tt.keys.length : Int) := by omega
    have zf3 := fun d0_ => map_getD strD tt.keys q d0_ hlt
    refine Zk ?_
    refine Zs ?_
    refine AWp.block ?_
    refine Zp 255 ?_
    refine Zp 1275 ?_
    refine Zc (fun hc6 => ?_) fun hc6 => ?_
    ·
     have hsz : ¬ sizeE tt.keys = 0 := by rw [m2, sizeE_t hlt (by omega)]; decide
     refine Zp 4 ?_
     refine AWp.ret ?_
     try simp only [thenQ, blkQ]
     apply endW_r [b3] [] [bj] [t] (by (try simp only [go_sem, fb3, zf3, hqi]); rfl)
     · rw [tstE_eq, if_neg (fun h9 => h9.2 he), if_neg (fun h9 => h9.2 hn), if_neg (fun h9 => h9 (z1 (by omega))), if_pos hsz]
       exact ⟨rfl, by first | rfl | (simp only [go_sem, fb3, zf3, hqi]; done) | (simp only [go_sem, fb3, zf3, hqi]; rfl)⟩
     · simp [LeA, LeD]
    have hs : ¬ 100 < (tt.keys[q]).length := by omega
    refine AWp.skip (blkQ_n (thenQ_n ?_))
    refine Zr (thenQ_n ?_)
    refine Ze 63 64 [] [] [bj, b3] [] (.e ⟨_, ZM, q + 1, rfl, ZE, ZE, ?_, ?_⟩)
    · omega
    · rw [m2, sizeE_f hlt hs]
   have hsz : sizeE tt.keys = 0 := by rw [m2, sizeE_e (by omega)]
   refine AWp.exit (thenQ_e (thenQ_e (blkQ_e (blkQ_n (thenQ_n ?_)))))
   refine Zm 15 ?_
   refine Zr (thenQ_n ?_)
   refine Ze 7 8 [] [] [bj, b3] [] (.e ⟨_, ZM, 2, rfl, ZE, ZE, ?_, ?_, ?_⟩)
   · omega
   · intro h9; exact z1 (by omega)
   · intro h9; exact hsz
  have hs1 := z1 (by omega)
  have hs2 := z2 (by omega)
  refine AWp.exit (thenQ_e (thenQ_e (blkQ_e (thenQ_n ?_))))
  refine Zs ?_
  refine Zp 449 ?_
  refine AWp.block ?_
  simp only [go_sem]
  refine Zl 7 8 (fun n lc hc => ∃ (q : Nat), n = tt.kids.length - q ∧ EqS lc [(59, .d (.int .i64 (q : Nat)))] ∧ EqS hc (⟨(bj, ⟨1, 1, [[.mp t ks]]⟩) :: (b3, ⟨8, 1, [[.d (.int .i64 tt.kind), .d (.int .i64 tt.mat), .d (.int .i64 tt.part), .d (.slc 1 (tt.names.map strD)), .d (.slc 1 (tt.keys.map strD)), .d (.bool tt.over), .d (.int .i64 tt.limit), .d (.slc 8 (kidsD tt))]]⟩) :: F, t :: L⟩) ∧ (q ≤ tt.kids.length) ∧ (tstEL ks tt.kids = tstEL ks (tt.kids.drop q))) ?_ ?_
  · refine ⟨_, 0, rfl, ZE, ZE, ?_, ?_⟩
    all_goals (first | omega | rfl)
  rintro _ _ _ ⟨q, rfl, ⟨rfl⟩, ⟨rfl⟩, m3, m4⟩
  simp only [go_sem]
  refine Zp 31 ?_
  refine Zs ?_
  refine Zc (fun hc7 => ?_) fun hc7 => ?_
  ·
   have hlt : q < tt.kids.length := by omega
   have hqi : (q : Int) < (tt.kids.length : Int) := by omega
   have zf4 := fun d0_ => kidsD_get tt q d0_ hlt
   refine Zk ?_
   refine Zs ?_
   refine AWp.block ?_
   refine Zx ?_
   try simp only [go_sem, fb3, zf4, hqi]
   (repeat (with_reducible refine And.intro ZS ?_))
   intro b13
   first | intro fb13 | have fb13 := True.intro
   try simp only [freshL] at fb13
   try simp only [go_sem, fb3, zf4, hqi, fb13]
   (repeat (with_reducible refine And.intro ZS ?_))
   refine Zx ?_
   try simp only [go_sem, fb3, zf4, hqi, fb13]
   (repeat (with_reducible refine And.intro ZS ?_))
   refine DW.acp [bj] [t] rfl rfl rfl rfl (by (try simp only [go_sem, fb3, zf4, hqi, fb13]); rfl) rfl (ih _ (List.getElem_mem hlt) _ _) ?_
   rintro _ _ ⟨rfl, rfl⟩
   try simp only [go_sem, fb3, zf4, hqi, fb13]
   (repeat (with_reducible refine And.intro ZS ?_))
   refine Zm 61 ?_
   refine Zp 95 ?_
   refine Zc (fun hc8 => ?_) fun hc8 => ?_
   ·
    refine Zp 2 ?_
    refine AWp.ret ?_
    try simp only [thenQ, blkQ]
    apply endW_r [b3, b13] [] [bj] [t] (by (try simp only [go_sem, fb3, zf4, hqi, fb13]); rfl)
    · rw [tstE_eq, if_neg (fun h9 => h9.2 he), if_neg (fun h9 => h9.2 hn), if_neg (fun h9 => h9 hs1), if_neg (fun h9 => h9 hs2), m4, tstEL_t hlt hc8]
      exact ⟨rfl, by first | rfl | (simp only [go_sem, fb3, zf4, hqi, fb13]; done) | (simp only [go_sem, fb3, zf4, hqi, fb13]; rfl)⟩
    · simp [LeA, LeD]
   have hz8 : tstE ks (tt.kids[q]) = 0 := by omega
   refine AWp.skip (blkQ_n (thenQ_n ?_))
   refine Zr (thenQ_n ?_)
   refine Ze 13 16 [b13] [] [bj, b3] [] (.e ⟨_, ZM, q + 1, rfl, ZE, ZE, ?_, ?_⟩)
   · omega
   · rw [m4, tstEL_f hlt hz8]
  refine AWp.exit (thenQ_e (thenQ_e (blkQ_e (thenQ_n ?_))))
  refine Zm 0 ?_
  refine Zp 1 ?_
  refine AWp.ret ?_
  try simp only [thenQ, blkQ]
  apply endW_r [b3] [] [bj] [t] (by (try simp only [go_sem, fb3]); rfl)
  · rw [tstE_eq, if_neg (fun h9 => h9.2 he), if_neg (fun h9 => h9.2 hn), if_neg (fun h9 => h9 hs1), if_neg (fun h9 => h9 hs2), m4, tstEL_e (by omega)]
    exact ⟨rfl, by first | rfl | (simp only [go_sem, fb3]; done) | (simp only [go_sem, fb3]; rfl)⟩
  · simp [LeA, LeD]
 refine Zk ?_
 refine Zs ?_
 refine Zp 387 ?_
 simp only [go_sem]
 refine AWp.ord [] [] [bj] [] (by (try simp only [go_sem, fb3]); rfl) ?_
 refine AWp.block ?_
 refine Zl 7 8 (fun n lc hc => ∃ (k : Nat), n = 2 - k ∧ EqS lc [(42, .d (.int .i64 (k : Nat)))] ∧ EqS hc (⟨(bj, ⟨1, 1, [[.mp t ks]]⟩) :: (b3, ⟨8, 1, [[.d (.int .i64 tt.kind), .d (.int .i64 tt.mat), .d (.int .i64 tt.part), .d (.slc 1 (tt.names.map strD)), .d (.slc 1 (tt.keys.map strD)), .d (.bool tt.over), .d (.int .i64 tt.limit), .d (.slc 8 (kidsD tt))]]⟩) :: F, t :: L⟩) ∧ (k ≤ 2) ∧ (1 ≤ k → sizeE tt.names = 0) ∧ (2 ≤ k → sizeE tt.keys = 0)) ?_ ?_
 · refine ⟨_, 0, rfl, ZE, ZE, ?_, ?_, ?_⟩
   all_goals (first | omega | (intro h9; omega))
 rintro _ _ _ ⟨k, rfl, ⟨rfl⟩, ⟨rfl⟩, z0, z1, z2⟩
 simp only [go_sem]
 refine Zp 31 ?_
 refine Zs ?_
 refine Zc (fun hc4 => ?_) fun hc4 => ?_
 ·
  refine Zk ?_
  refine Zs ?_
  refine AWp.block ?_
  obtain rfl | rfl : k = 0 ∨ k = 1 := by omega
  ·
   refine Zp 31 ?_
   refine Zp 251 ?_
   refine AWp.block ?_
   simp only [go_sem]
   refine Zl 63 64 (fun n lc hc => ∃ (q : Nat), n = tt.names.length - q ∧ EqS lc [(47, .d (.int .i64 (q : Nat)))] ∧ EqS hc (⟨(bj, ⟨1, 1, [[.mp t ks]]⟩) :: (b3, ⟨8, 1, [[.d (.int .i64 tt.kind), .d (.int .i64 tt.mat), .d (.int .i64 tt.part), .d (.slc 1 (tt.names.map strD)), .d (.slc 1 (tt.keys.map strD)), .d (.bool tt.over), .d (.int .i64 tt.limit), .d (.slc 8 (kidsD tt))]]⟩) :: F, t :: L⟩) ∧ (q ≤ tt.names.length) ∧ (sizeE tt.names = sizeE (tt.names.drop q))) ?_ ?_
   · refine ⟨_, 0, rfl, ZE, ZE, ?_, ?_⟩
     all_goals (first | omega | rfl)
   rintro _ _ _ ⟨q, rfl, ⟨rfl⟩, ⟨rfl⟩, m1, m2⟩
   simp only [go_sem]
   refine Zp 255 ?_
   refine Zs ?_
   refine Zc (fun hc5 => ?_) fun hc5 => ?_
   ·
    have hlt : q < tt.names.length := by omega
    have hqi : (q : Int) < (tt.names.length : Int) := by omega
    have zf5 := fun d0_ => map_getD strD tt.names q d0_ hlt
    refine Zk ?_
    refine Zs ?_
    refine AWp.block ?_
    refine Zp 255 ?_
    refine Zp 1275 ?_
    refine Zc (fun hc6 => ?_) fun hc6 => ?_
    ·
     have hsz : ¬ sizeE tt.names = 0 := by rw [m2, sizeE_t hlt (by omega)]; decide
     refine Zp 4 ?_
     refine AWp.ret ?_
     try simp only [thenQ, blkQ]
     apply endW_r [b3] [] [bj] [t] (by (try simp only [go_sem, fb3, zf5, hqi]); rfl)
     · rw [tstE_eq, if_neg (fun h9 => hc0 h9.1), if_neg (fun h9 => hc0 h9.1), if_pos hsz]
       exact ⟨rfl, by first | rfl | (simp only [go_sem, fb3, zf5, hqi]; done) | (simp only [go_sem, fb3, zf5, hqi]; rfl)⟩
     · simp [LeA, LeD]
    have hs : ¬ 100 < (tt.names[q]).length := by omega
    refine AWp.skip (blkQ_n (thenQ_n ?_))
    refine Zr (thenQ_n ?_)
    refine Ze 63 64 [] [] [bj, b3] [] (.e ⟨_, ZM, q + 1, rfl, ZE, ZE, ?_, ?_⟩)
    · omega
    · rw [m2, sizeE_f hlt hs]
   have hsz : sizeE tt.names = 0 := by rw [m2, sizeE_e (by omega)]
   refine AWp.exit (thenQ_e (thenQ_e (blkQ_e (blkQ_n (thenQ_n ?_)))))
   refine Zm 15 ?_
   refine Zr (thenQ_n ?_)
   refine Ze 7 8 [] [] [bj, b3] [] (.e ⟨_, ZM, 1, rfl, ZE, ZE, ?_, ?_, ?_⟩)
   · omega
   · intro h9; exact hsz
   · intro h9; omega
  refine Zp 31 ?_
  refine Zp 251 ?_
  refine AWp.block ?_
  simp only [go_sem]
  refine Zl 63 64 (fun n lc hc => ∃ (q : Nat), n = tt.keys.length - q ∧ EqS lc [(47, .d (.int .i64 (q : Nat)))] ∧ EqS hc (⟨(bj, ⟨1, 1, [[.mp t ks]]⟩) :: (b3, ⟨8, 1, [[.d (.int .i64 tt.kind), .d (.int .i64 tt.mat), .d (.int .i64 tt.part), .d (.slc 1 (tt.names.map strD)), .d (.slc 1 (tt.keys.map strD)), .d (.bool tt.over), .d (.int .i64 tt.limit), .d (.slc 8 (kidsD tt))]]⟩) :: F, t :: L⟩) ∧ (q ≤ tt.keys.length) ∧ (sizeE tt.keys = sizeE (tt.keys.drop q))) ?_ ?_
  · refine ⟨_, 0, rfl, ZE, ZE, ?_, ?_⟩
    all_goals (first | omega | rfl)
  rintro _ _ _ ⟨q, rfl, ⟨rfl⟩, ⟨rfl⟩, m1, m2⟩
  simp only [go_sem]
  refine Zp 255 ?_
  refine Zs ?_
  refine Zc (fun hc5 => ?_) fun hc5 => ?_
  ·
   have hlt : q < tt.keys.length := by omega
   have hqi : (q : Int) < (tt.keys.length : Int) := by omega
   have zf6 := fun d0_ => map_getD strD tt.keys q d0_ hlt
   refine Zk ?_
   refine Zs ?_
   refine AWp.block ?_
   refine Zp 255 ?_
   refine Zp 1275 ?_
   refine Zc (fun hc6 => ?_) fun hc6 => ?_
   ·
    have hsz : ¬ sizeE tt.keys = 0 := by rw [m2, sizeE_t hlt (by omega)]; decide
    refine Zp 4 ?_
    refine AWp.ret ?_
    try simp only [thenQ, blkQ]
    apply endW_r [b3] [] [bj] [t] (by (try simp only [go_sem, fb3, zf6, hqi]); rfl)
    · rw [tstE_eq, if_neg (fun h9 => hc0 h9.1), if_neg (fun h9 => hc0 h9.1), if_neg (fun h9 => h9 (z1 (by omega))), if_pos hsz]
      exact ⟨rfl, by first | rfl | (simp only [go_sem, fb3, zf6, hqi]; done) | (simp only [go_sem, fb3, zf6, hqi]; rfl)⟩
    · simp [LeA, LeD]
   have hs : ¬ 100 < (tt.keys[q]).length := by omega
   refine AWp.skip (blkQ_n (thenQ_n ?_))
   refine Zr (thenQ_n ?_)
   refine Ze 63 64 [] [] [bj, b3] [] (.e ⟨_, ZM, q + 1, rfl, ZE, ZE, ?_, ?_⟩)
   · omega
   · rw [m2, sizeE_f hlt hs]
  have hsz : sizeE tt.keys = 0 := by rw [m2, sizeE_e (by omega)]
  refine AWp.exit (thenQ_e (thenQ_e (blkQ_e (blkQ_n (thenQ_n ?_)))))
  refine Zm 15 ?_
  refine Zr (thenQ_n ?_)
  refine Ze 7 8 [] [] [bj, b3] [] (.e ⟨_, ZM, 2, rfl, ZE, ZE, ?_, ?_, ?_⟩)
  · omega
  · intro h9; exact z1 (by omega)
  · intro h9; exact hsz
 have hs1 := z1 (by omega)
 have hs2 := z2 (by omega)
 refine AWp.exit (thenQ_e (thenQ_e (blkQ_e (thenQ_n ?_))))
 refine Zs ?_
 refine Zp 449 ?_
 refine AWp.block ?_
 simp only [go_sem]
 refine Zl 7 8 (fun n lc hc => ∃ (q : Nat), n = tt.kids.length - q ∧ EqS lc [(59, .d (.int .i64 (q : Nat)))] ∧ EqS hc (⟨(bj, ⟨1, 1, [[.mp t ks]]⟩) :: (b3, ⟨8, 1, [[.d (.int .i64 tt.kind), .d (.int .i64 tt.mat), .d (.int .i64 tt.part), .d (.slc 1 (tt.names.map strD)), .d (.slc 1 (tt.keys.map strD)), .d (.bool tt.over), .d (.int .i64 tt.limit), .d (.slc 8 (kidsD tt))]]⟩) :: F, t :: L⟩) ∧ (q ≤ tt.kids.length) ∧ (tstEL ks tt.kids = tstEL ks (tt.kids.drop q))) ?_ ?_
 · refine ⟨_, 0, rfl, ZE, ZE, ?_, ?_⟩
   all_goals (first | omega | rfl)
 rintro _ _ _ ⟨q, rfl, ⟨rfl⟩, ⟨rfl⟩, m3, m4⟩
 simp only [go_sem]
 refine Zp 31 ?_
 refine Zs ?_
 refine Zc (fun hc7 => ?_) fun hc7 => ?_
 ·
  have hlt : q < tt.kids.length := by omega
  have hqi : (q : Int) < (tt.kids.length : Int) := by omega
  have zf7 := fun d0_ => kidsD_get tt q d0_ hlt
  refine Zk ?_
  refine Zs ?_
  refine AWp.block ?_
  refine Zx ?_
  try simp only [go_sem, fb3, zf7, hqi]
  (repeat (with_reducible refine And.intro ZS ?_))
  intro b13
  first | intro fb13 | have fb13 := True.intro
  try simp only [freshL] at fb13
  try simp only [go_sem, fb3, zf7, hqi, fb13]
  (repeat (with_reducible refine And.intro ZS ?_))
  refine Zx ?_
  try simp only [go_sem, fb3, zf7, hqi, fb13]
  (repeat (with_reducible refine And.intro ZS ?_))
  refine DW.acp [bj] [t] rfl rfl rfl rfl (by (try simp only [go_sem, fb3, zf7, hqi, fb13]); rfl) rfl (ih _ (List.getElem_mem hlt) _ _) ?_
  rintro _ _ ⟨rfl, rfl⟩
  try simp only [go_sem, fb3, zf7, hqi, fb13]
  (repeat (with_reducible refine And.intro ZS ?_))
  refine Zm 61 ?_
  refine Zp 95 ?_
  refine Zc (fun hc8 => ?_) fun hc8 => ?_
  ·
   refine Zp 2 ?_
   refine AWp.ret ?_
   try simp only [thenQ, blkQ]
   apply endW_r [b3, b13] [] [bj] [t] (by (try simp only [go_sem, fb3, zf7, hqi, fb13]); rfl)
   · rw [tstE_eq, if_neg (fun h9 => hc0 h9.1), if_neg (fun h9 => hc0 h9.1), if_neg (fun h9 => h9 hs1), if_neg (fun h9 => h9 hs2), m4, tstEL_t hlt hc8]
     exact ⟨rfl, by first | rfl | (simp only [go_sem, fb3, zf7, hqi, fb13]; done) | (simp only [go_sem, fb3, zf7, hqi, fb13]; rfl)⟩
   · simp [LeA, LeD]
  have hz8 : tstE ks (tt.kids[q]) = 0 := by omega
  refine AWp.skip (blkQ_n (thenQ_n ?_))
  refine Zr (thenQ_n ?_)
  refine Ze 13 16 [b13] [] [bj, b3] [] (.e ⟨_, ZM, q + 1, rfl, ZE, ZE, ?_, ?_⟩)
  · omega
  · rw [m4, tstEL_f hlt hz8]
 refine AWp.exit (thenQ_e (thenQ_e (blkQ_e (thenQ_n ?_))))
 refine Zm 0 ?_
 refine Zp 1 ?_
 refine AWp.ret ?_
 try simp only [thenQ, blkQ]
 apply endW_r [b3] [] [bj] [t] (by (try simp only [go_sem, fb3]); rfl)
 · rw [tstE_eq, if_neg (fun h9 => hc0 h9.1), if_neg (fun h9 => hc0 h9.1), if_neg (fun h9 => h9 hs1), if_neg (fun h9 => h9 hs2), m4, tstEL_e (by omega)]
   exact ⟨rfl, by first | rfl | (simp only [go_sem, fb3]; done) | (simp only [go_sem, fb3]; rfl)⟩
 · simp [LeA, LeD]
end Go.Proofs.YtidldcfpmehpiaaGreatDoor

namespace Go.Proofs.YtidldcfpmehpiaaGreatDoor
set_option linter.unusedSimpArgs false
set_option linter.unusedVariables false
theorem jtest_c (T : Tbl) (bj t : Nat) (ks : List (List UInt8)) (tt : Tst) (ok : tt.Ok) (F : List (Nat × Ob)) (L : List Nat) : AC Tryz.prog T 199 [.ptr bj 1 0 0, .agg (tstA tt)] ⟨(bj, ⟨1, 1, [[.mp t ks]]⟩) :: F, t :: L⟩ (fun x h => x = .ret (.d (.int .i64 (tstE ks tt))) ∧ h = ⟨(bj, ⟨1, 1, [[.mp t ks]]⟩) :: F, t :: L⟩) := by
  induction tt using Tst.ind generalizing F L with
  | h tt ih => exact jtest_s T bj t ks tt ok (fun y hy F L => ih y hy (ok.inv.2.2.2 y hy) F L) F L
def NotB {α : Type} (l : List α) (a : α) (k : Nat) : Prop := ∀ (j : Nat) (h : j < l.length), j < k → ¬ l[j] = a
theorem NotB.s {α : Type} {l : List α} {a : α} {k : Nat} (h : k < l.length) (H : NotB l a k) (hc : ¬ l[k] = a) : NotB l a (k + 1) := fun j hj hk => by
  rcases Nat.lt_or_ge j k with h9 | h9
  · exact H j hj h9
  · obtain rfl : j = k := by omega
    exact hc
theorem NotB.e {α : Type} {l : List α} {a : α} {k : Nat} (H : NotB l a k) (h : l.length ≤ k) : ¬ a ∈ l := fun h9 => by
  obtain ⟨i, h8, h7⟩ := List.mem_iff_getElem.1 h9
  exact H i h8 (by omega) h7
attribute [local go_sem] icast8 strD in
set_option maxRecDepth 4000 in
set_option maxHeartbeats 1000000 in
theorem required_c (T : Tbl) (ks : List (List UInt8)) (s : List UInt8) (hl : ks.length ≤ 1048576) : PC Tryz.prog T 120 [.d (.slc 1 (ks.map strD)), .d (.str s)] (.d (.int .i64 (needE ks s))) := by
 refine ⟨Tryz.call120, PCall.enterS Tryz.func120 rfl Tryz.ntmps120 rfl fun hb => ?_⟩
 simp only [go_sem, Tryz.results120]
 refine Zp 3 ?_
 refine Zs ?_
 refine Zp 7 ?_
 refine AWp.block ?_
 simp only [go_sem]
 refine Zl 3 4 (fun n lc hc => ∃ (k : Nat), n = ks.length - k ∧ EqS lc [(5, .d (.int .i64 (k : Nat)))] ∧ EqS hc (⟨[], []⟩) ∧ (k ≤ ks.length) ∧ (NotB ks s k)) ?_ ?_
 · refine ⟨_, 0, rfl, ZE, ZE, ?_, ?_⟩
   all_goals (first | omega | exact fun j h h9 => absurd h9 (by omega))
 rintro _ _ _ ⟨k, rfl, ⟨rfl⟩, ⟨rfl⟩, h1, h2⟩
 simp only [go_sem]
 refine Zs ?_
 refine Zp 71 ?_
 refine Zc (fun hc0 => ?_) fun hc0 => ?_
 ·
  have hlt : k < ks.length := by omega
  have hki : (k : Int) < (ks.length : Int) := by omega
  have zf1 := fun d0_ => map_getD strD ks k d0_ hlt
  refine Zk ?_
  refine Zs ?_
  refine AWp.block ?_
  refine Zp 519 ?_
  refine Zc (fun hc1 => ?_) fun hc1 => ?_
  ·
   refine Zp 4 ?_
   refine AWp.ret ?_
   try simp only [go_sem, zf1, hki]
   have hm : s ∈ ks := hc1 ▸ List.getElem_mem hlt
   simp [LeA, LeD, needE, hm]
  refine AWp.skip (blkQ_n (thenQ_n ?_))
  refine Zr (thenQ_n ?_)
  refine Zf 3 4 (.e ⟨_, ZM, k + 1, rfl, ZE, ZE, ?_, ?_⟩)
  · omega
  · exact h2.s hlt hc1
 refine AWp.exit (thenQ_e (thenQ_e (blkQ_e (thenQ_n ?_))))
 refine Zm 0 ?_
 refine Zp 1 ?_
 refine AWp.ret ?_
 try simp only [go_sem]
 have hm := h2.e (by omega)
 simp [LeA, LeD, needE, hm]
attribute [local go_sem] tstA icast8 decide_true strD tstD decide_false in
set_option maxRecDepth 4000 in
set_option maxHeartbeats 1000000 in
theorem tallow_s (T : Tbl) (ks : List (List UInt8)) (hkn : ks.length ≤ 1048576) (tt : Tst) (ok : tt.Ok) (ih : ∀ y ∈ tt.kids, PC Tryz.prog T 119 [.d (.slc 1 (ks.map strD)), .agg (tstA y)] (.d (.int .i64 (tstE ks y)))) : PC Tryz.prog T 119 [.d (.slc 1 (ks.map strD)), .agg (tstA tt)] (.d (.int .i64 (tstE ks tt))) := by
 refine ⟨Tryz.call119, PCall.enterS Tryz.func119 rfl Tryz.ntmps119 rfl fun hb => ?_⟩
 obtain ⟨s1, s2, s3, s4⟩ := ok.inv
 simp only [go_sem, Tryz.results119]
 refine Zx ?_
 try simp only [go_sem]
 (repeat (with_reducible refine And.intro ZS ?_))
 intro b3
 first | intro fb3 | have fb3 := True.intro
 try simp only [freshL] at fb3
 try simp only [go_sem, fb3]
 (repeat (with_reducible refine And.intro ZS ?_))
 refine Zs ?_
 refine Zp 69 ?_
 refine Zc (fun hc0 => ?_) fun hc0 => ?_
 ·
  refine Zx ?_
  try simp only [go_sem, fb3]
  (repeat (with_reducible refine And.intro ZS ?_))
  refine DW.pcr rfl rfl rfl rfl (required_c T ks _ hkn) rfl rfl ?_
  try simp only [go_sem, fb3]
  (repeat (with_reducible refine And.intro ZS ?_))
  refine Zs ?_
  refine Zp 15 ?_
  refine AWp.block ?_
  simp only [go_sem]
  refine Zl 3 12 (fun n lc hc => ∃ (k : Nat) (e : Int), n = tt.names.length - k ∧ EqS lc [(5, .d (.int .i64 e)), (6, .d (.int .i64 (k : Nat)))] ∧ EqS hc (⟨[(b3, ⟨8, 1, [[.d (.int .i64 tt.kind), .d (.int .i64 tt.mat), .d (.int .i64 tt.part), .d (.slc 1 (tt.names.map strD)), .d (.slc 1 (tt.keys.map strD)), .d (.bool tt.over), .d (.int .i64 tt.limit), .d (.slc 8 (kidsD tt))]]⟩)], []⟩) ∧ (k ≤ tt.names.length) ∧ ((e = 0 ∧ envT ∈ ks ∧ namesE tt.names = namesE (tt.names.drop k)) ∨ (e = 8 ∧ ¬ envT ∈ ks) ∨ (e = 7 ∧ envT ∈ ks ∧ ¬ namesE tt.names = 0))) ?_ ?_
  · refine ⟨_, 0, needE ks envT, rfl, ZE, ZE, ?_, ?_⟩
    all_goals (first | omega | (by_cases h9 : envT ∈ ks; exact .inl ⟨if_pos h9, h9, rfl⟩; exact .inr (.inl ⟨if_neg h9, h9⟩)))
  rintro _ _ _ ⟨k, e, rfl, ⟨rfl⟩, ⟨rfl⟩, m1, m2⟩
  simp only [go_sem]
  refine Zs ?_
  rcases Nat.lt_or_ge k tt.names.length with hkl | hkl
  ·
   have hkL : ((k : Int) < (tt.names.length : Int)) = True := by simp; omega
   refine Zp 4111 ?_
   refine Zc (fun hc1 => ?_) fun hc1 => ?_
   ·
    have hlt := hkl
    have hki : (k : Int) < (tt.names.length : Int) := by omega
    have he0 : e = 0 := by first | exact hc1 | exact hc1.2
    have m3 : envT ∈ ks ∧ namesE tt.names = namesE (tt.names.drop k) := by rcases m2 with ⟨_, y2, y3⟩ | ⟨y1, _⟩ | ⟨y1, _⟩; exact ⟨y2, y3⟩; omega; omega
    have zf1 := fun d0_ => map_getD strD tt.names k d0_ hlt
    refine Zk ?_
    refine Zs ?_
    refine AWp.block ?_
    refine Zp 262159 ?_
    refine Zc (fun hc2 => ?_) fun hc2 => ?_
    ·
     refine Zr (blkQ_n (thenQ_n ?_))
     refine Zr (thenQ_n ?_)
     refine Ze 3 12 [] [] [b3] [] (.e ⟨_, ZM, k + 1, 7, rfl, ZE, ZE, ?_, ?_⟩)
     · omega
     · exact .inr (.inr ⟨rfl, m3.1, by rw [m3.2, namesE_t hlt hc2]; decide⟩)
    have hbad : ¬ (¬ tt.names[k] = fromT ∧ ¬ tt.names[k] = toT) := by rintro ⟨h8, h9⟩; first | exact hc2 ⟨h8, h9⟩ | exact hc2 h8 h9 | exact hc2.elim (fun h7 => h8 h7) (fun h7 => h9 h7) | (simp [h8, h9] at hc2)
    refine AWp.skip (blkQ_n (thenQ_n ?_))
    refine Zr (thenQ_n ?_)
    refine Ze 3 12 [] [] [b3] [] (.e ⟨_, ZM, k + 1, e, rfl, ZE, ZE, ?_, ?_⟩)
    · omega
    · exact .inl ⟨he0, m3.1, by rw [m3.2, namesE_f hlt hbad]⟩
   refine AWp.exit (thenQ_e (thenQ_e (blkQ_e (thenQ_n ?_))))
   refine Zp 71 ?_
   refine Zc (fun hc3 => ?_) fun hc3 => ?_
   ·
    refine Zp 4 ?_
    refine AWp.ret ?_
    try simp only [go_sem, fb3, hkL]
    have hv : tstE ks tt = e := by
      rcases m2 with ⟨y1, _⟩ | ⟨y1, y2⟩ | ⟨y1, y2, y3⟩
      · exact absurd y1 hc3
      · rw [tstE_eq, if_pos ⟨hc0, y2⟩, y1]
      · rw [tstE_eq, if_neg (fun h9 => h9.2 y2), if_pos ⟨hc0, y3⟩, y1]
    rw [hv]; try simp [LeA, LeD]
   have m4 : envT ∈ ks ∧ namesE tt.names = namesE (tt.names.drop k) := by rcases m2 with ⟨_, y2, y3⟩ | ⟨y1, _⟩ | ⟨y1, _⟩; exact ⟨y2, y3⟩; omega; omega
   have he := m4.1
   have hn : namesE tt.names = 0 := by rw [m4.2, namesE_e (by omega)]
   clear m1 m2
   refine Zk ?_
   refine Zs ?_
   refine Zp 11 ?_
   refine AWp.block ?_
   simp only [go_sem]
   refine Zl 3 4 (fun n lc hc => ∃ (q : Nat), n = tt.names.length - q ∧ EqS lc [(7, .d (.int .i64 (q : Nat)))] ∧ EqS hc (⟨[(b3, ⟨8, 1, [[.d (.int .i64 tt.kind), .d (.int .i64 tt.mat), .d (.int .i64 tt.part), .d (.slc 1 (tt.names.map strD)), .d (.slc 1 (tt.keys.map strD)), .d (.bool tt.over), .d (.int .i64 tt.limit), .d (.slc 8 (kidsD tt))]]⟩)], []⟩) ∧ (q ≤ tt.names.length) ∧ (sizeE tt.names = sizeE (tt.names.drop q))) ?_ ?_
   · refine ⟨_, 0, rfl, ZE, ZE, ?_, ?_⟩
     all_goals (first | omega | rfl)
   rintro _ _ _ ⟨q, rfl, ⟨rfl⟩, ⟨rfl⟩, m1, m2⟩
   simp only [go_sem]
   refine Zs ?_
   refine Zp 135 ?_
   refine Zc (fun hc4 => ?_) fun hc4 => ?_
   ·
    have hlt : q < tt.names.length := by omega
    have hqi : (q : Int) < (tt.names.length : Int) := by omega
    have zf2 := fun d0_ => map_getD strD tt.names q d0_ hlt
    refine Zk ?_
    refine Zs ?_
    refine AWp.block ?_
    refine Zp 1031 ?_
    refine Zc (fun hc5 => ?_) fun hc5 => ?_
    ·
     have hsz : ¬ sizeE tt.names = 0 := by rw [m2, sizeE_t hlt (by omega)]; decide
     refine Zp 4 ?_
     refine AWp.ret ?_
     try simp only [go_sem, fb3, hkL, zf2, hqi]
     rw [tstE_eq, if_neg (fun h9 => h9.2 he), if_neg (fun h9 => h9.2 hn), if_pos hsz]; try simp [LeA, LeD]
    have hs : ¬ 100 < (tt.names[q]).length := by omega
    refine AWp.skip (blkQ_n (thenQ_n ?_))
    refine Zr (thenQ_n ?_)
    refine Ze 3 4 [] [] [b3] [] (.e ⟨_, ZM, q + 1, rfl, ZE, ZE, ?_, ?_⟩)
    · omega
    · rw [m2, sizeE_f hlt hs]
   have hs1 : sizeE tt.names = 0 := by rw [m2, sizeE_e (by omega)]
   clear m1 m2
   refine AWp.exit (thenQ_e (thenQ_e (blkQ_e (thenQ_n ?_))))
   refine Zs ?_
   refine Zp 11 ?_
   refine AWp.block ?_
   simp only [go_sem]
   refine Zl 3 4 (fun n lc hc => ∃ (q : Nat), n = tt.keys.length - q ∧ EqS lc [(8, .d (.int .i64 (q : Nat)))] ∧ EqS hc (⟨[(b3, ⟨8, 1, [[.d (.int .i64 tt.kind), .d (.int .i64 tt.mat), .d (.int .i64 tt.part), .d (.slc 1 (tt.names.map strD)), .d (.slc 1 (tt.keys.map strD)), .d (.bool tt.over), .d (.int .i64 tt.limit), .d (.slc 8 (kidsD tt))]]⟩)], []⟩) ∧ (q ≤ tt.keys.length) ∧ (sizeE tt.keys = sizeE (tt.keys.drop q))) ?_ ?_
   · refine ⟨_, 0, rfl, ZE, ZE, ?_, ?_⟩
     all_goals (first | omega | rfl)
   rintro _ _ _ ⟨q, rfl, ⟨rfl⟩, ⟨rfl⟩, m1, m2⟩
   simp only [go_sem]
   refine Zs ?_
   refine Zp 135 ?_
   refine Zc (fun hc6 => ?_) fun hc6 => ?_
   ·
    have hlt : q < tt.keys.length := by omega
    have hqi : (q : Int) < (tt.keys.length : Int) := by omega
    have zf3 := fun d0_ => map_getD strD tt.keys q d0_ hlt
    refine Zk ?_
    refine Zs ?_
    refine AWp.block ?_
    refine Zp 1031 ?_
    refine Zc (fun hc7 => ?_) fun hc7 => ?_
    ·
     have hsz : ¬ sizeE tt.keys = 0 := by rw [m2, sizeE_t hlt (by omega)]; decide
     refine Zp 4 ?_
     refine AWp.ret ?_
     try simp only [go_sem, fb3, hkL, zf3, hqi]
     rw [tstE_eq, if_neg (fun h9 => h9.2 he), if_neg (fun h9 => h9.2 hn), if_neg (fun h9 => h9 hs1), if_pos hsz]; try simp [LeA, LeD]
    have hs : ¬ 100 < (tt.keys[q]).length := by omega
    refine AWp.skip (blkQ_n (thenQ_n ?_))
    refine Zr (thenQ_n ?_)
    refine Ze 3 4 [] [] [b3] [] (.e ⟨_, ZM, q + 1, rfl, ZE, ZE, ?_, ?_⟩)
    · omega
    · rw [m2, sizeE_f hlt hs]
   have hs2 : sizeE tt.keys = 0 := by rw [m2, sizeE_e (by omega)]
   clear m1 m2
   refine AWp.exit (thenQ_e (thenQ_e (blkQ_e (thenQ_n ?_))))
   refine Zs ?_
   refine Zp 11 ?_
   refine AWp.block ?_
   simp only [go_sem]
   refine Zl 3 4 (fun n lc hc => ∃ (q : Nat), n = tt.kids.length - q ∧ EqS lc [(9, .d (.int .i64 (q : Nat)))] ∧ EqS hc (⟨[(b3, ⟨8, 1, [[.d (.int .i64 tt.kind), .d (.int .i64 tt.mat), .d (.int .i64 tt.part), .d (.slc 1 (tt.names.map strD)), .d (.slc 1 (tt.keys.map strD)), .d (.bool tt.over), .d (.int .i64 tt.limit), .d (.slc 8 (kidsD tt))]]⟩)], []⟩) ∧ (q ≤ tt.kids.length) ∧ (tstEL ks tt.kids = tstEL ks (tt.kids.drop q))) ?_ ?_
   · refine ⟨_, 0, rfl, ZE, ZE, ?_, ?_⟩
     all_goals (first | omega | rfl)
   rintro _ _ _ ⟨q, rfl, ⟨rfl⟩, ⟨rfl⟩, m3, m4⟩
   simp only [go_sem]
   refine Zs ?_
   refine Zp 135 ?_
   refine Zc (fun hc8 => ?_) fun hc8 => ?_
   ·
    have hlt : q < tt.kids.length := by omega
    have hqi : (q : Int) < (tt.kids.length : Int) := by omega
    have zf4 := fun d0_ => kidsD_get tt q d0_ hlt
    refine Zk ?_
    refine Zs ?_
    refine AWp.block ?_
    refine Zx ?_
    try simp only [go_sem, fb3, hkL, zf4, hqi]
    (repeat (with_reducible refine And.intro ZS ?_))
    refine DW.pcr rfl rfl rfl rfl (ih _ (List.getElem_mem hlt)) rfl rfl ?_
    try simp only [go_sem, fb3, hkL, zf4, hqi]
    (repeat (with_reducible refine And.intro ZS ?_))
    refine Zm 15 ?_
    refine Zp 47 ?_
    refine Zc (fun hc9 => ?_) fun hc9 => ?_
    ·
     refine Zp 4 ?_
     refine AWp.ret ?_
     try simp only [go_sem, fb3, hkL, zf4, hqi]
     rw [tstE_eq ks tt, if_neg (fun h9 => h9.2 he), if_neg (fun h9 => h9.2 hn), if_neg (fun h9 => h9 hs1), if_neg (fun h9 => h9 hs2), m4, tstEL_t hlt hc9]; try simp [LeA, LeD]
    have hz8 : tstE ks (tt.kids[q]) = 0 := by omega
    refine AWp.skip (blkQ_n (thenQ_n ?_))
    refine Zr (thenQ_n ?_)
    refine Ze 3 4 [] [] [b3] [] (.e ⟨_, ZM, q + 1, rfl, ZE, ZE, ?_, ?_⟩)
    · omega
    · rw [m4, tstEL_f hlt hz8]
   refine AWp.exit (thenQ_e (thenQ_e (blkQ_e (thenQ_n ?_))))
   refine Zm 0 ?_
   refine Zp 1 ?_
   refine AWp.ret ?_
   try simp only [go_sem, fb3, hkL]
   rw [tstE_eq, if_neg (fun h9 => h9.2 he), if_neg (fun h9 => h9.2 hn), if_neg (fun h9 => h9 hs1), if_neg (fun h9 => h9 hs2), m4, tstEL_e (by omega)]; try simp [LeA, LeD]
  have hkL : ((k : Int) < (tt.names.length : Int)) = False := by simp; omega
  refine Zp 4111 ?_
  refine Zc (fun hc1 => ?_) fun hc1 => ?_
  ·
   exact absurd hc1 (by first | (simp; done) | omega | (simp [*]; done))
  refine AWp.exit (thenQ_e (thenQ_e (blkQ_e (thenQ_n ?_))))
  refine Zp 71 ?_
  refine Zc (fun hc3 => ?_) fun hc3 => ?_
  ·
   refine Zp 4 ?_
   refine AWp.ret ?_
   try simp only [go_sem, fb3, hkL]
   have hv : tstE ks tt = e := by
     rcases m2 with ⟨y1, _⟩ | ⟨y1, y2⟩ | ⟨y1, y2, y3⟩
     · exact absurd y1 hc3
     · rw [tstE_eq, if_pos ⟨hc0, y2⟩, y1]
     · rw [tstE_eq, if_neg (fun h9 => h9.2 y2), if_pos ⟨hc0, y3⟩, y1]
   rw [hv]; try simp [LeA, LeD]
  have m4 : envT ∈ ks ∧ namesE tt.names = namesE (tt.names.drop k) := by rcases m2 with ⟨_, y2, y3⟩ | ⟨y1, _⟩ | ⟨y1, _⟩; exact ⟨y2, y3⟩; omega; omega
  have he := m4.1
  have hn : namesE tt.names = 0 := by rw [m4.2, namesE_e (by omega)]
  clear m1 m2
  refine Zk ?_
  refine Zs ?_
  refine Zp 11 ?_
  refine AWp.block ?_
  simp only [go_sem]
  refine Zl 3 4 (fun n lc hc => ∃ (q : Nat), n = tt.names.length - q ∧ EqS lc [(7, .d (.int .i64 (q : Nat)))] ∧ EqS hc (⟨[(b3, ⟨8, 1, [[.d (.int .i64 tt.kind), .d (.int .i64 tt.mat), .d (.int .i64 tt.part), .d (.slc 1 (tt.names.map strD)), .d (.slc 1 (tt.keys.map strD)), .d (.bool tt.over), .d (.int .i64 tt.limit), .d (.slc 8 (kidsD tt))]]⟩)], []⟩) ∧ (q ≤ tt.names.length) ∧ (sizeE tt.names = sizeE (tt.names.drop q))) ?_ ?_
  · refine ⟨_, 0, rfl, ZE, ZE, ?_, ?_⟩
    all_goals (first | omega | rfl)
  rintro _ _ _ ⟨q, rfl, ⟨rfl⟩, ⟨rfl⟩, m1, m2⟩
  simp only [go_sem]
  refine Zs ?_
  refine Zp 135 ?_
  refine Zc (fun hc4 => ?_) fun hc4 => ?_
  ·
   have hlt : q < tt.names.length := by omega
   have hqi : (q : Int) < (tt.names.length : Int) := by omega
   have zf5 := fun d0_ => map_getD strD tt.names q d0_ hlt
   refine Zk ?_
   refine Zs ?_
   refine AWp.block ?_
   refine Zp 1031 ?_
   refine Zc (fun hc5 => ?_) fun hc5 => ?_
   ·
    have hsz : ¬ sizeE tt.names = 0 := by rw [m2, sizeE_t hlt (by omega)]; decide
    refine Zp 4 ?_
    refine AWp.ret ?_
    try simp only [go_sem, fb3, hkL, zf5, hqi]
    rw [tstE_eq, if_neg (fun h9 => h9.2 he), if_neg (fun h9 => h9.2 hn), if_pos hsz]; try simp [LeA, LeD]
   have hs : ¬ 100 < (tt.names[q]).length := by omega
   refine AWp.skip (blkQ_n (thenQ_n ?_))
   refine Zr (thenQ_n ?_)
   refine Ze 3 4 [] [] [b3] [] (.e ⟨_, ZM, q + 1, rfl, ZE, ZE, ?_, ?_⟩)
   · omega
   · rw [m2, sizeE_f hlt hs]
  have hs1 : sizeE tt.names = 0 := by rw [m2, sizeE_e (by omega)]
  clear m1 m2
  refine AWp.exit (thenQ_e (thenQ_e (blkQ_e (thenQ_n ?_))))
  refine Zs ?_
  refine Zp 11 ?_
  refine AWp.block ?_
  simp only [go_sem]
  refine Zl 3 4 (fun n lc hc => ∃ (q : Nat), n = tt.keys.length - q ∧ EqS lc [(8, .d (.int .i64 (q : Nat)))] ∧ EqS hc (⟨[(b3, ⟨8, 1, [[.d (.int .i64 tt.kind), .d (.int .i64 tt.mat), .d (.int .i64 tt.part), .d (.slc 1 (tt.names.map strD)), .d (.slc 1 (tt.keys.map strD)), .d (.bool tt.over), .d (.int .i64 tt.limit), .d (.slc 8 (kidsD tt))]]⟩)], []⟩) ∧ (q ≤ tt.keys.length) ∧ (sizeE tt.keys = sizeE (tt.keys.drop q))) ?_ ?_
  · refine ⟨_, 0, rfl, ZE, ZE, ?_, ?_⟩
    all_goals (first | omega | rfl)
  rintro _ _ _ ⟨q, rfl, ⟨rfl⟩, ⟨rfl⟩, m1, m2⟩
  simp only [go_sem]
  refine Zs ?_
  refine Zp 135 ?_
  refine Zc (fun hc6 => ?_) fun hc6 => ?_
  ·
   have hlt : q < tt.keys.length := by omega
   have hqi : (q : Int) < (tt.keys.length : Int) := by omega
   have zf6 := fun d0_ => map_getD strD tt.keys q d0_ hlt
   refine Zk ?_
   refine Zs ?_
   refine AWp.block ?_
   refine Zp 1031 ?_
   refine Zc (fun hc7 => ?_) fun hc7 => ?_
   ·
    have hsz : ¬ sizeE tt.keys = 0 := by rw [m2, sizeE_t hlt (by omega)]; decide
    refine Zp 4 ?_
    refine AWp.ret ?_
    try simp only [go_sem, fb3, hkL, zf6, hqi]
    rw [tstE_eq, if_neg (fun h9 => h9.2 he), if_neg (fun h9 => h9.2 hn), if_neg (fun h9 => h9 hs1), if_pos hsz]; try simp [LeA, LeD]
   have hs : ¬ 100 < (tt.keys[q]).length := by omega
   refine AWp.skip (blkQ_n (thenQ_n ?_))
   refine Zr (thenQ_n ?_)
   refine Ze 3 4 [] [] [b3] [] (.e ⟨_, ZM, q + 1, rfl, ZE, ZE, ?_, ?_⟩)
   · omega
   · rw [m2, sizeE_f hlt hs]
  have hs2 : sizeE tt.keys = 0 := by rw [m2, sizeE_e (by omega)]
  clear m1 m2
  refine AWp.exit (thenQ_e (thenQ_e (blkQ_e (thenQ_n ?_))))
  refine Zs ?_
  refine Zp 11 ?_
  refine AWp.block ?_
  simp only [go_sem]
  refine Zl 3 4 (fun n lc hc => ∃ (q : Nat), n = tt.kids.length - q ∧ EqS lc [(9, .d (.int .i64 (q : Nat)))] ∧ EqS hc (⟨[(b3, ⟨8, 1, [[.d (.int .i64 tt.kind), .d (.int .i64 tt.mat), .d (.int .i64 tt.part), .d (.slc 1 (tt.names.map strD)), .d (.slc 1 (tt.keys.map strD)), .d (.bool tt.over), .d (.int .i64 tt.limit), .d (.slc 8 (kidsD tt))]]⟩)], []⟩) ∧ (q ≤ tt.kids.length) ∧ (tstEL ks tt.kids = tstEL ks (tt.kids.drop q))) ?_ ?_
  · refine ⟨_, 0, rfl, ZE, ZE, ?_, ?_⟩
    all_goals (first | omega | rfl)
  rintro _ _ _ ⟨q, rfl, ⟨rfl⟩, ⟨rfl⟩, m3, m4⟩
  simp only [go_sem]
  refine Zs ?_
  refine Zp 135 ?_
  refine Zc (fun hc8 => ?_) fun hc8 => ?_
  ·
   have hlt : q < tt.kids.length := by omega
   have hqi : (q : Int) < (tt.kids.length : Int) := by omega
   have zf7 := fun d0_ => kidsD_get tt q d0_ hlt
   refine Zk ?_
   refine Zs ?_
   refine AWp.block ?_
   refine Zx ?_
   try simp only [go_sem, fb3, hkL, zf7, hqi]
   (repeat (with_reducible refine And.intro ZS ?_))
   refine DW.pcr rfl rfl rfl rfl (ih _ (List.getElem_mem hlt)) rfl rfl ?_
   try simp only [go_sem, fb3, hkL, zf7, hqi]
   (repeat (with_reducible refine And.intro ZS ?_))
   refine Zm 15 ?_
   refine Zp 47 ?_
   refine Zc (fun hc9 => ?_) fun hc9 => ?_
   ·
    refine Zp 4 ?_
    refine AWp.ret ?_
    try simp only [go_sem, fb3, hkL, zf7, hqi]
    rw [tstE_eq ks tt, if_neg (fun h9 => h9.2 he), if_neg (fun h9 => h9.2 hn), if_neg (fun h9 => h9 hs1), if_neg (fun h9 => h9 hs2), m4, tstEL_t hlt hc9]; try simp [LeA, LeD]
   have hz8 : tstE ks (tt.kids[q]) = 0 := by omega
   refine AWp.skip (blkQ_n (thenQ_n ?_))
   refine Zr (thenQ_n ?_)
   refine Ze 3 4 [] [] [b3] [] (.e ⟨_, ZM, q + 1, rfl, ZE, ZE, ?_, ?_⟩)
   · omega
   · rw [m4, tstEL_f hlt hz8]
  refine AWp.exit (thenQ_e (thenQ_e (blkQ_e (thenQ_n ?_))))
  refine Zm 0 ?_
  refine Zp 1 ?_
  refine AWp.ret ?_
  try simp only [go_sem, fb3, hkL]
  rw [tstE_eq, if_neg (fun h9 => h9.2 he), if_neg (fun h9 => h9.2 hn), if_neg (fun h9 => h9 hs1), if_neg (fun h9 => h9 hs2), m4, tstEL_e (by omega)]; try simp [LeA, LeD]
 refine Zk ?_
 refine Zs ?_
 refine Zp 7 ?_
 refine AWp.block ?_
 simp only [go_sem]
 refine Zl 3 4 (fun n lc hc => ∃ (q : Nat), n = tt.names.length - q ∧ EqS lc [(7, .d (.int .i64 (q : Nat)))] ∧ EqS hc (⟨[(b3, ⟨8, 1, [[.d (.int .i64 tt.kind), .d (.int .i64 tt.mat), .d (.int .i64 tt.part), .d (.slc 1 (tt.names.map strD)), .d (.slc 1 (tt.keys.map strD)), .d (.bool tt.over), .d (.int .i64 tt.limit), .d (.slc 8 (kidsD tt))]]⟩)], []⟩) ∧ (q ≤ tt.names.length) ∧ (sizeE tt.names = sizeE (tt.names.drop q))) ?_ ?_
 · refine ⟨_, 0, rfl, ZE, ZE, ?_, ?_⟩
   all_goals (first | omega | rfl)
 rintro _ _ _ ⟨q, rfl, ⟨rfl⟩, ⟨rfl⟩, m1, m2⟩
 simp only [go_sem]
 refine Zs ?_
 refine Zp 135 ?_
 refine Zc (fun hc4 => ?_) fun hc4 => ?_
 ·
  have hlt : q < tt.names.length := by omega
  have hqi : (q : Int) < (tt.names.length : Int) := by omega
  have zf8 := fun d0_ => map_getD strD tt.names q d0_ hlt
  refine Zk ?_
  refine Zs ?_
  refine AWp.block ?_
  refine Zp 1031 ?_
  refine Zc (fun hc5 => ?_) fun hc5 => ?_
  ·
   have hsz : ¬ sizeE tt.names = 0 := by rw [m2, sizeE_t hlt (by omega)]; decide
   refine Zp 4 ?_
   refine AWp.ret ?_
   try simp only [go_sem, fb3, zf8, hqi]
   rw [tstE_eq, if_neg (fun h9 => hc0 h9.1), if_neg (fun h9 => hc0 h9.1), if_pos hsz]; try simp [LeA, LeD]
  have hs : ¬ 100 < (tt.names[q]).length := by omega
  refine AWp.skip (blkQ_n (thenQ_n ?_))
  refine Zr (thenQ_n ?_)
  refine Ze 3 4 [] [] [b3] [] (.e ⟨_, ZM, q + 1, rfl, ZE, ZE, ?_, ?_⟩)
  · omega
  · rw [m2, sizeE_f hlt hs]
 have hs1 : sizeE tt.names = 0 := by rw [m2, sizeE_e (by omega)]
 clear m1 m2
 refine AWp.exit (thenQ_e (thenQ_e (blkQ_e (thenQ_n ?_))))
 refine Zs ?_
 refine Zp 11 ?_
 refine AWp.block ?_
 simp only [go_sem]
 refine Zl 3 4 (fun n lc hc => ∃ (q : Nat), n = tt.keys.length - q ∧ EqS lc [(8, .d (.int .i64 (q : Nat)))] ∧ EqS hc (⟨[(b3, ⟨8, 1, [[.d (.int .i64 tt.kind), .d (.int .i64 tt.mat), .d (.int .i64 tt.part), .d (.slc 1 (tt.names.map strD)), .d (.slc 1 (tt.keys.map strD)), .d (.bool tt.over), .d (.int .i64 tt.limit), .d (.slc 8 (kidsD tt))]]⟩)], []⟩) ∧ (q ≤ tt.keys.length) ∧ (sizeE tt.keys = sizeE (tt.keys.drop q))) ?_ ?_
 · refine ⟨_, 0, rfl, ZE, ZE, ?_, ?_⟩
   all_goals (first | omega | rfl)
 rintro _ _ _ ⟨q, rfl, ⟨rfl⟩, ⟨rfl⟩, m1, m2⟩
 simp only [go_sem]
 refine Zs ?_
 refine Zp 135 ?_
 refine Zc (fun hc6 => ?_) fun hc6 => ?_
 ·
  have hlt : q < tt.keys.length := by omega
  have hqi : (q : Int) < (tt.keys.length : Int) := by omega
  have zf9 := fun d0_ => map_getD strD tt.keys q d0_ hlt
  refine Zk ?_
  refine Zs ?_
  refine AWp.block ?_
  refine Zp 1031 ?_
  refine Zc (fun hc7 => ?_) fun hc7 => ?_
  ·
   have hsz : ¬ sizeE tt.keys = 0 := by rw [m2, sizeE_t hlt (by omega)]; decide
   refine Zp 4 ?_
   refine AWp.ret ?_
   try simp only [go_sem, fb3, zf9, hqi]
   rw [tstE_eq, if_neg (fun h9 => hc0 h9.1), if_neg (fun h9 => hc0 h9.1), if_neg (fun h9 => h9 hs1), if_pos hsz]; try simp [LeA, LeD]
  have hs : ¬ 100 < (tt.keys[q]).length := by omega
  refine AWp.skip (blkQ_n (thenQ_n ?_))
  refine Zr (thenQ_n ?_)
  refine Ze 3 4 [] [] [b3] [] (.e ⟨_, ZM, q + 1, rfl, ZE, ZE, ?_, ?_⟩)
  · omega
  · rw [m2, sizeE_f hlt hs]
 have hs2 : sizeE tt.keys = 0 := by rw [m2, sizeE_e (by omega)]
 clear m1 m2
 refine AWp.exit (thenQ_e (thenQ_e (blkQ_e (thenQ_n ?_))))
 refine Zs ?_
 refine Zp 11 ?_
 refine AWp.block ?_
 simp only [go_sem]
 refine Zl 3 4 (fun n lc hc => ∃ (q : Nat), n = tt.kids.length - q ∧ EqS lc [(9, .d (.int .i64 (q : Nat)))] ∧ EqS hc (⟨[(b3, ⟨8, 1, [[.d (.int .i64 tt.kind), .d (.int .i64 tt.mat), .d (.int .i64 tt.part), .d (.slc 1 (tt.names.map strD)), .d (.slc 1 (tt.keys.map strD)), .d (.bool tt.over), .d (.int .i64 tt.limit), .d (.slc 8 (kidsD tt))]]⟩)], []⟩) ∧ (q ≤ tt.kids.length) ∧ (tstEL ks tt.kids = tstEL ks (tt.kids.drop q))) ?_ ?_
 · refine ⟨_, 0, rfl, ZE, ZE, ?_, ?_⟩
   all_goals (first | omega | rfl)
 rintro _ _ _ ⟨q, rfl, ⟨rfl⟩, ⟨rfl⟩, m3, m4⟩
 simp only [go_sem]
 refine Zs ?_
 refine Zp 135 ?_
 refine Zc (fun hc8 => ?_) fun hc8 => ?_
 ·
  have hlt : q < tt.kids.length := by omega
  have hqi : (q : Int) < (tt.kids.length : Int) := by omega
  have zf10 := fun d0_ => kidsD_get tt q d0_ hlt
  refine Zk ?_
  refine Zs ?_
  refine AWp.block ?_
  refine Zx ?_
  try simp only [go_sem, fb3, zf10, hqi]
  (repeat (with_reducible refine And.intro ZS ?_))
  refine DW.pcr rfl rfl rfl rfl (ih _ (List.getElem_mem hlt)) rfl rfl ?_
  try simp only [go_sem, fb3, zf10, hqi]
  (repeat (with_reducible refine And.intro ZS ?_))
  refine Zm 15 ?_
  refine Zp 47 ?_
  refine Zc (fun hc9 => ?_) fun hc9 => ?_
  ·
   refine Zp 4 ?_
   refine AWp.ret ?_
   try simp only [go_sem, fb3, zf10, hqi]
   rw [tstE_eq ks tt, if_neg (fun h9 => hc0 h9.1), if_neg (fun h9 => hc0 h9.1), if_neg (fun h9 => h9 hs1), if_neg (fun h9 => h9 hs2), m4, tstEL_t hlt hc9]; try simp [LeA, LeD]
  have hz8 : tstE ks (tt.kids[q]) = 0 := by omega
  refine AWp.skip (blkQ_n (thenQ_n ?_))
  refine Zr (thenQ_n ?_)
  refine Ze 3 4 [] [] [b3] [] (.e ⟨_, ZM, q + 1, rfl, ZE, ZE, ?_, ?_⟩)
  · omega
  · rw [m4, tstEL_f hlt hz8]
 refine AWp.exit (thenQ_e (thenQ_e (blkQ_e (thenQ_n ?_))))
 refine Zm 0 ?_
 refine Zp 1 ?_
 refine AWp.ret ?_
 try simp only [go_sem, fb3]
 rw [tstE_eq, if_neg (fun h9 => hc0 h9.1), if_neg (fun h9 => hc0 h9.1), if_neg (fun h9 => h9 hs1), if_neg (fun h9 => h9 hs2), m4, tstEL_e (by omega)]; try simp [LeA, LeD]
theorem tallow_c (T : Tbl) (ks : List (List UInt8)) (hkn : ks.length ≤ 1048576) (tt : Tst) (ok : tt.Ok) : PC Tryz.prog T 119 [.d (.slc 1 (ks.map strD)), .agg (tstA tt)] (.d (.int .i64 (tstE ks tt))) := by
  induction tt using Tst.ind with
  | h tt ih => exact tallow_s T ks hkn tt ok fun y hy => ih y hy (ok.inv.2.2.2 y hy)
end Go.Proofs.YtidldcfpmehpiaaGreatDoor

namespace Go.Proofs.YtidldcfpmehpiaaGreatDoor
set_option linter.unusedSimpArgs false
set_option linter.unusedVariables false
/-- the place of a value among values; -1: it is not there -/
def ixG {α : Type} [DecidableEq α] : List α → α → Int
  | [], _ => -1
  | x :: r, t => if t = x then 0 else if ixG r t < 0 then -1 else ixG r t + 1
section
variable {α : Type} [DecidableEq α]
theorem ixG_ge : ∀ (l : List α) (t : α), -1 ≤ ixG l t
  | [], _ => by simp [ixG]
  | x :: r, t => by have := ixG_ge r t; unfold ixG; split; omega; split <;> omega
theorem ixG_mem : ∀ (l : List α) (t : α), 0 ≤ ixG l t ↔ t ∈ l
  | [], t => by simp [ixG]
  | x :: r, t => by
    have h1 := ixG_mem r t
    have h2 := ixG_ge r t
    unfold ixG
    rw [List.mem_cons]
    split
    · rename_i h; simp [h]
    · rename_i h
      split
      · rename_i h3; simp [h, ← h1]; omega
      · rename_i h3; simp [h, ← h1]; omega
def ixQ (l : List α) (t : α) (k : Nat) : Prop := ixG l t = if ixG (l.drop k) t < 0 then -1 else ixG (l.drop k) t + k
theorem ixQ_0 (l : List α) (t : α) : ixQ l t 0 := by
  have := ixG_ge l t
  unfold ixQ; rw [List.drop_zero]; split <;> omega
theorem ixQ_t {l : List α} {t : α} {k : Nat} (h : k < l.length) (hR : ixQ l t k) (he : t = l[k]'h) : ixG l t = k := by
  unfold ixQ at hR
  rw [List.drop_eq_getElem_cons h, ixG, if_pos he] at hR
  rw [hR]; simp
theorem ixQ_f {l : List α} {t : α} {k : Nat} (h : k < l.length) (hR : ixQ l t k) (he : ¬ t = l[k]'h) : ixQ l t (k + 1) := by
  unfold ixQ at hR ⊢
  rw [List.drop_eq_getElem_cons h, ixG, if_neg he] at hR
  have := ixG_ge (l.drop (k + 1)) t
  rw [hR]
  split <;> split <;> omega
theorem ixQ_end {l : List α} {t : α} {k : Nat} (h : l.length ≤ k) (hR : ixQ l t k) : ixG l t = -1 := by
  unfold ixQ at hR
  rw [List.drop_eq_nil_of_le h] at hR
  simpa [ixG] using hR
end
attribute [local go_sem] icast8 strD in
set_option maxRecDepth 4000 in
set_option maxHeartbeats 1000000 in
theorem IndexT_c (T : Tbl) (l : List Tx) (t : Tx) (hl : l.length ≤ 1048576) : PC Tryz.prog T 114 [.d (.slc 1 (l.map strD)), .d (.str t)] (.d (.int .i64 (ixG l t))) := by
 refine ⟨Tryz.call114, PCall.enterS Tryz.func114 rfl Tryz.ntmps114 rfl fun hb => ?_⟩
 simp only [go_sem, Tryz.results114]
 refine Zp 3 ?_
 refine Zs ?_
 refine Zp 27 ?_
 refine AWp.block ?_
 simp only [go_sem]
 refine Zl 7 8 (fun n lc hc => ∃ (k : Nat), n = l.length - k ∧ EqS lc [(8, .d (.int .i64 (k : Nat)))] ∧ EqS hc (⟨[], []⟩) ∧ (k ≤ l.length) ∧ (ixQ l t k)) ?_ ?_
 · refine ⟨_, 0, rfl, ZE, ZE, ?_, ?_⟩
   all_goals (first | omega | exact ixQ_0 _ _)
 rintro _ _ _ ⟨k, rfl, ⟨rfl⟩, ⟨rfl⟩, h1, h2⟩
 simp only [go_sem]
 refine Zp 31 ?_
 refine Zs ?_
 refine Zc (fun hc0 => ?_) fun hc0 => ?_
 ·
  have hlt : k < l.length := by omega
  have hki : (k : Int) < (l.length : Int) := by omega
  have zf1 := fun d0_ => map_getD strD l k d0_ hlt
  refine Zk ?_
  refine Zs ?_
  refine AWp.block ?_
  refine Zp 31 ?_
  refine Zp 1055 ?_
  refine Zc (fun hc1 => ?_) fun hc1 => ?_
  ·
   refine Zp 4 ?_
   refine AWp.ret ?_
   try simp only [go_sem, zf1, hki]
   rw [ixQ_t hlt h2 hc1]; try simp [LeA, LeD]
  refine AWp.skip (blkQ_n (thenQ_n ?_))
  refine Zr (thenQ_n ?_)
  refine Zf 11 16 (.e ⟨_, ZM, k + 1, rfl, ZE, ZE, ?_, ?_⟩)
  · omega
  · exact ixQ_f hlt h2 hc1
 refine AWp.exit (thenQ_e (thenQ_e (blkQ_e (thenQ_n ?_))))
 refine Zm 0 ?_
 refine Zp 1 ?_
 refine AWp.ret ?_
 try simp only [go_sem]
 rw [ixQ_end (by omega) h2]; try simp [LeA, LeD]
set_option maxRecDepth 4000 in
set_option maxHeartbeats 1000000 in
theorem ContT_c (T : Tbl) (l : List Tx) (t : Tx) (hl : l.length ≤ 1048576) : PC Tryz.prog T 57 [.d (.slc 1 (l.map strD)), .d (.str t)] (.d (.bool (decide (t ∈ l)))) := by
 refine ⟨Tryz.call57, PCall.enterS Tryz.func57 rfl Tryz.ntmps57 rfl fun hb => ?_⟩
 simp only [go_sem, Tryz.results57]
 refine Zp 3 ?_
 refine Z1 4 (IndexT_c T l t hl) ?_
 refine AWp.ret ?_
 try simp only [go_sem]
 simp [LeA, LeD, ixG_mem]
end Go.Proofs.YtidldcfpmehpiaaGreatDoor

namespace Go.Proofs.YtidldcfpmehpiaaGreatDoor
open Go.RowKit
set_option linter.unusedSimpArgs false
set_option linter.unusedVariables false
def LeDs : List D → List D → Prop
  | [], [] => True
  | x :: l, y :: l' => LeD x y ∧ LeDs l l'
  | _, _ => False
def LeDR : List (List D) → List (List D) → Prop
  | [], [] => True
  | x :: l, y :: l' => LeDs x y ∧ LeDR l l'
  | _, _ => False
theorem LeDs.rfl' : ∀ l : List D, LeDs l l
  | [] => trivial
  | x :: l => ⟨LeD.rfl' x, LeDs.rfl' l⟩
theorem LeDR.rfl' : ∀ l : List (List D), LeDR l l
  | [] => trivial
  | x :: l => ⟨LeDs.rfl' x, LeDR.rfl' l⟩
theorem LeDR.app : ∀ {a a' b b' : List (List D)}, LeDR a a' → LeDR b b' → LeDR (a ++ b) (a' ++ b')
  | [], [], _, _, _, h => h
  | x :: a, y :: a', _, _, h, k => ⟨h.1, LeDR.app h.2 k⟩
theorem LeDs.len : ∀ {a b : List D}, LeDs a b → b.length = a.length
  | [], [], _ => rfl
  | x :: a, y :: b, h => by rw [List.length_cons, List.length_cons, LeDs.len h.2]
theorem LeDR.len : ∀ {a b : List (List D)}, LeDR a b → b.length = a.length
  | [], [], _ => rfl
  | x :: a, y :: b, h => by rw [List.length_cons, List.length_cons, LeDR.len h.2]
theorem LeDs.at_ : ∀ {a b : List D}, LeDs a b → ∀ {j : Nat} {y : D}, b[j]? = some y → ∃ x, a[j]? = some x ∧ LeD x y
  | [], [], _, j, y, e => by simp at e
  | x :: a, z :: b, h, 0, y, e => by simp at e; subst e; exact ⟨x, rfl, h.1⟩
  | x :: a, z :: b, h, j + 1, y, e => by
    obtain ⟨u, h1, h2⟩ := LeDs.at_ h.2 (j := j) (y := y) (by simpa using e)
    exact ⟨u, by simpa using h1, h2⟩
theorem LeDR.at_ : ∀ {a b : List (List D)}, LeDR a b → ∀ {j : Nat} {y : List D}, b[j]? = some y → ∃ x, a[j]? = some x ∧ LeDs x y
  | [], [], _, j, y, e => by simp at e
  | x :: a, z :: b, h, 0, y, e => by simp at e; subst e; exact ⟨x, rfl, h.1⟩
  | x :: a, z :: b, h, j + 1, y, e => by
    obtain ⟨u, h1, h2⟩ := LeDR.at_ h.2 (j := j) (y := y) (by simpa using e)
    exact ⟨u, by simpa using h1, h2⟩
theorem VD.deep {F : Frz} {k : Nat} {rows rows' : List (List D)} {v : Value} (h : VD F (.slc k rows) v) (hr : LeDR rows rows') : VD F (.slc k rows') v := by
  cases h with
  | slc0 _ A c h hm =>
    cases rows' with
    | nil => exact .slc0 k A c h hm
    | cons a b => exact hr.elim
  | slc _ _ b off c val h0 hc hm hk hf hv =>
    have hl := hr.len
    rw [← hl]
    refine .slc k rows' b off c val (by omega) (by omega) hm (fun r h9 => ?_) (fun i r j x h1 h2 => ?_) fun i r j x h1 h2 => ?_
    · obtain ⟨i, hi⟩ := List.getElem?_of_mem h9
      obtain ⟨x, h1, h2⟩ := hr.at_ hi
      rw [h2.len]
      exact hk x (List.mem_of_getElem? h1)
    · obtain ⟨y, h3, h4⟩ := hr.at_ h1
      obtain ⟨z, h5, h6⟩ := h4.at_ h2
      exact hf i y j z h3 h5
    · obtain ⟨y, h3, h4⟩ := hr.at_ h1
      obtain ⟨z, h5, h6⟩ := h4.at_ h2
      exact h6.ok (hv i y j z h3 h5)
/-- an own slice of a slot says less of its rows' slices -/
theorem AWp.wkO {P : Program} {T : Tbl} {Q : AQ} {code : Code} {h : AH} {df : AV} {l : SL} {N t k : Nat} {rows rows' : List (List D)} (i : Nat) (hi : lookS df i l = .own t k rows) (hr : LeDR rows rows') (hN : Nat.blt i N = true) (H : AWp P T code Q (mkS df (insS i (.own t k rows') l) N 0) h) : AWp P T code Q (mkS df l N 0) h := by
  intro G w act S R
  refine H G w act S ?_
  have hlt : i < N := by simpa [Nat.blt_eq] using hN
  rw [← mkS_set]
  refine ⟨by simpa using R.1, fun j x e => ?_⟩
  by_cases hj : i = j
  · subst hj
    rw [List.getElem?_set_self (by rw [mkS_len]; exact hlt)] at e
    injection e with e
    subst e
    obtain ⟨v, h1, h2⟩ := R.2 i (.own t k rows) (by rw [mkS_get _ _ _ _ _ hlt, Nat.zero_add, hi])
    refine ⟨v, h1, ?_⟩
    cases h2 with
    | own hd ht => exact .own (hd.deep hr) ht
  · rw [List.getElem?_set_ne hj] at e
    exact R.2 j x e
/-- an own slice of a slot is read as data from here on -/
theorem AWp.ownD {P : Program} {T : Tbl} {Q : AQ} {code : Code} {h : AH} {df : AV} {l : SL} {N t k : Nat} {rows rows' : List (List D)} (i : Nat) (hi : lookS df i l = .own t k rows) (hr : LeDR rows rows') (hN : Nat.blt i N = true) (H : AWp P T code Q (mkS df (insS i (.d (.slc k rows')) l) N 0) h) : AWp P T code Q (mkS df l N 0) h := by
  intro G w act S R
  refine H G w act S ?_
  have hlt : i < N := by simpa [Nat.blt_eq] using hN
  rw [← mkS_set]
  refine ⟨by simpa using R.1, fun j x e => ?_⟩
  by_cases hj : i = j
  · subst hj
    rw [List.getElem?_set_self (by rw [mkS_len]; exact hlt)] at e
    injection e with e
    subst e
    obtain ⟨v, h1, h2⟩ := R.2 i (.own t k rows) (by rw [mkS_get _ _ _ _ _ hlt, Nat.zero_add, hi])
    refine ⟨v, h1, ?_⟩
    cases h2 with
    | own hd ht => exact .d (hd.deep hr)
  · rw [List.getElem?_set_ne hj] at e
    exact R.2 j x e
end Go.Proofs.YtidldcfpmehpiaaGreatDoor

namespace Go.Proofs.YtidldcfpmehpiaaGreatDoor
open Go.Sem
set_option linter.unusedSimpArgs false
set_option linter.unusedVariables false
theorem opsD_full (X : List OpS) : ∀ r ∈ opsD X, r.length = 22 := fun r hr => by
  obtain ⟨o, _, rfl⟩ := List.mem_map.1 hr
  exact opD_len o
theorem AWp.iceO {P : Program} {T : Tbl} {Q : AQ} {sl : List AV} {code : Code} {w bb cc : Nat} {X : List OpS} {F : List (Nat × Ob)} {L : List Nat} (hc : cc = 0 → X = []) (H : AWp P T code Q sl ⟨(w, ⟨1, 1, [[.d (.slc 22 (opsD X))]]⟩) :: F, L⟩) : AWp P T code Q sl ⟨mkO w bb cc X F, L⟩ := by
  have hp : (mkO w bb cc X F).Perm (mO bb 22 cc (dRows (opsD X)) ((w, ⟨1, 1, [[mA bb 22 cc X.length]]⟩) :: F)) := by
    unfold mkO mO
    split
    · exact .refl _
    · exact List.Perm.swap ..
  refine AWp.pm hp ?_
  exact AWp.iceH (P := P) (T := T) (Q := Q) (sl := sl) (code := code) (b := bb) (b' := w) (i := 0) (j := 0) (k := 22) (c := cc) (rows := opsD X) (L := L) (ob := ⟨1, 1, [[mA bb 22 cc X.length]]⟩) (r := [mA bb 22 cc X.length]) (F := (w, ⟨1, 1, [[mA bb 22 cc X.length]]⟩) :: F) (by simp [getO]) rfl (by rw [opsD_len]; rfl) (fun h => by rw [hc h]; rfl) (by decide) (opsD_full X) (by simpa [setO] using H)
end Go.Proofs.YtidldcfpmehpiaaGreatDoor

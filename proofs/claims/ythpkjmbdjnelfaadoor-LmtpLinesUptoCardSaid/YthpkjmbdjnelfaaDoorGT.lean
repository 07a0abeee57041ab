/- Texts that the laws rest on, packed. -/
import Derived.Lib.IndexBytes
import Derived.Test.YthpkjmbdjnelfaaDoorGA
import Derived.Test.YthpkjmbdjnelfaaDoorProg
namespace Go.Proofs.YthpkjmbdjnelfaaDoor
def marksL : List UInt8 := [33, 35, 36, 37, 38, 39, 42, 43, 45, 47, 61, 63, 94, 95, 123, 124, 125, 126, 96]
def alnumB (c : UInt8) : Bool := (97 ≤ c.toNat && c.toNat ≤ 122) || (65 ≤ c.toNat && c.toNat ≤ 90) || (48 ≤ c.toNat && c.toNat ≤ 57)
def atomB (c : UInt8) : Bool := alnumB c || decide (0 ≤ Lib.indexByte marksL c)
def dotGo : Bool → List UInt8 → Bool
  | d, [] => !d
  | d, c :: r => if c = 46 then !d && dotGo true r else atomB c && dotGo false r
end Go.Proofs.YthpkjmbdjnelfaaDoor

namespace Go.Proofs.YthpkjmbdjnelfaaDoor
set_option linter.unusedSimpArgs false
set_option linter.unusedVariables false
abbrev Tx := List UInt8
def adrE (l d : Tx) : Int := if dotGo true l = false ∨ dotGo true d = false then 3 else if 99 < l.length + d.length then 1 else 0
theorem adrE_nil_l (d : Tx) : adrE [] d ≠ 0 := by simp [adrE, dotGo]
theorem adrE_nil_d (l : Tx) : adrE l [] ≠ 0 := by simp [adrE, dotGo]
abbrev Ad := Tx × Tx
def blkB (c : UInt8) : Bool := c == 32 || c == 9
def runB (c : UInt8) : Bool := atomB c || c == 46
def skipS : Tx → Tx := List.dropWhile blkB
def runS : Tx → Tx := List.takeWhile runB
def offS : Tx → Tx := List.dropWhile runB
/-- behind something quoted, whose first mark was read -/
def quoS : Tx → Option Tx
  | [] => none
  | [c] => if c = 34 then some [] else none
  | c :: x :: r => if c = 34 then some (x :: r) else if c = 92 then quoS r else quoS (x :: r)
def bareS (l : Tx) : Tx → Option (Ad × Tx)
  | [] => none
  | c :: r => if c = 64 ∧ adrE l (runS r) = 0 then some ((l, runS r), offS r) else none
theorem skip_le (s : Tx) : (skipS s).length ≤ s.length := by unfold skipS; exact (List.dropWhile_sublist _).length_le
theorem off_le (s : Tx) : (offS s).length ≤ s.length := by unfold offS; exact (List.dropWhile_sublist _).length_le
theorem run_off (s : Tx) : runS s ++ offS s = s := List.takeWhile_append_dropWhile ..
theorem off_lt (s : Tx) (h : runS s ≠ []) : (offS s).length < s.length := by
  have := congrArg List.length (run_off s)
  have h2 : 0 < (runS s).length := List.length_pos_iff.2 h
  simp only [List.length_append] at this
  omega
theorem quo_lt : ∀ (s r : Tx), quoS s = some r → r.length < s.length
  | [], r, h => by simp [quoS] at h
  | [c], r, h => by
    simp only [quoS] at h
    split at h
    · injection h with h; subst h; simp
    · cases h
  | c :: x :: s, r, h => by
    simp only [quoS] at h
    split at h
    · injection h with h; subst h; simp
    · split at h
      · have := quo_lt s r h; simp; omega
      · have := quo_lt (x :: s) r h; simp at this ⊢; omega
theorem bare_le {l s : Tx} {a : Ad} {r : Tx} (h : bareS l s = some (a, r)) : r.length < s.length := by
  cases s with
  | nil => simp [bareS] at h
  | cons c s =>
    simp only [bareS] at h
    split at h
    · injection h with h; injection h with h1 h2; subst h2
      have := off_le s
      simp; omega
    · cases h
def gtS : Option (Ad × Tx) → Option (Ad × Tx)
  | some (a, c :: r) => if c = 62 then some (a, r) else none
  | _ => none
/-- an address, byte by byte; first: no word was read -/
def addrS (first : Bool) (s : Tx) : Option (Ad × Tx) :=
  if (skipS s).head? = some 34 then
    match h : quoS (skipS s).tail with
    | none => none
    | some r => addrS false r
  else if (skipS s).head? = some 60 then gtS (bareS (runS (skipS s).tail) (offS (skipS s).tail))
  else if first = true ∧ (offS (skipS s)).head? = some 64 then bareS (runS (skipS s)) (offS (skipS s))
  else if h : runS (skipS s) = [] then none else addrS false (offS (skipS s))
  termination_by s.length
  decreasing_by
    · have h1 := quo_lt _ _ h
      have h2 := skip_le s
      have h3 : (skipS s).tail.length ≤ (skipS s).length := by simp
      omega
    · have h1 := off_lt _ h
      have h2 := skip_le s
      omega
theorem gt_lt {o : Option (Ad × Tx)} {a : Ad} {r : Tx} (h : gtS o = some (a, r)) : ∃ q, o = some (a, 62 :: q) ∧ r = q := by
  unfold gtS at h
  split at h
  · split at h
    · rename_i hc; subst hc; injection h with h; injection h with h1 h2; exact ⟨_, by rw [h1], h2.symm⟩
    · cases h
  · cases h
theorem addr_lt (n : Nat) : ∀ (first : Bool) (s : Tx) (a : Ad) (r : Tx), s.length ≤ n → addrS first s = some (a, r) → r.length < s.length := by
  induction n with
  | zero =>
    intro first s a r hs h
    have : s = [] := List.eq_nil_of_length_eq_zero (by omega)
    subst this
    unfold addrS at h
    simp [skipS, offS, runS] at h
  | succ n ih =>
    intro first s a r hs h
    have hk := skip_le s
    unfold addrS at h
    split at h
    · rename_i h0
      split at h
      · cases h
      · rename_i q hq
        have h1 := quo_lt _ _ hq
        have h2 : (skipS s).tail.length + 1 = (skipS s).length := by
          cases e : skipS s with
          | nil => rw [e] at h0; simp at h0
          | cons c t => simp
        have := ih false q a r (by omega) h
        omega
    · split at h
      · obtain ⟨q, h1, rfl⟩ := gt_lt h
        have h2 := bare_le h1
        have h3 := off_le (skipS s).tail
        have h4 : (skipS s).tail.length ≤ (skipS s).length := by simp
        simp at h2
        omega
      · split at h
        · have := bare_le h
          have := off_le (skipS s)
          omega
        · split at h
          · cases h
          · rename_i h0
            have h1 := off_lt _ h0
            have := ih false _ a r (by omega) h
            omega
/-- a list, byte by byte -/
def listS (s : Tx) : Option (List Ad) :=
  match h : addrS true s with
  | none => none
  | some (a, r) =>
    match h2 : skipS r with
    | [] => some [a]
    | c :: q => if c = 44 then (listS q).map (a :: ·) else none
  termination_by s.length
  decreasing_by
    have h1 := addr_lt _ true s a r (Nat.le_refl _) h
    have h3 := skip_le r
    rw [h2] at h3
    simp at h3
    omega

/-! bit by bit -/
structure Bt where
  text : Tx
  run : Bool
  quo : Bool
  apart : Bool
end Go.Proofs.YthpkjmbdjnelfaaDoor

namespace Go.Proofs.YthpkjmbdjnelfaaDoor
set_option linter.unusedSimpArgs false
set_option linter.unusedVariables false
theorem run62 : runB 62 = false := by decide
theorem run64 : runB 64 = false := by decide
theorem blk60 : blkB 60 = false := by decide
theorem skip_cons {c : UInt8} {r : Tx} (h : blkB c = true) : skipS (c :: r) = skipS r := by unfold skipS; rw [List.dropWhile_cons, if_pos h]
theorem skip_stay {c : UInt8} {r : Tx} (h : blkB c = false) : skipS (c :: r) = c :: r := by unfold skipS; rw [List.dropWhile_cons, if_neg (by rw [h]; decide)]
theorem runS_cons {c : UInt8} {r : Tx} (h : runB c = true) : runS (c :: r) = c :: runS r := by unfold runS; rw [List.takeWhile_cons, if_pos h]
theorem runS_no {c : UInt8} {r : Tx} (h : runB c = false) : runS (c :: r) = [] := by unfold runS; rw [List.takeWhile_cons, if_neg (by rw [h]; decide)]
theorem offS_no {c : UInt8} {r : Tx} (h : runB c = false) : offS (c :: r) = c :: r := by unfold offS; rw [List.dropWhile_cons, if_neg (by rw [h]; decide)]
theorem bare_inv {w q : Tx} {a : Ad} {r : Tx} (h : bareS w q = some (a, r)) : ∃ p, q = 64 :: p ∧ adrE w (runS p) = 0 ∧ a = (w, runS p) ∧ r = offS p ∧ w ≠ [] ∧ runS p ≠ [] := by
  cases q with
  | nil => simp [bareS] at h
  | cons c p =>
    simp only [bareS] at h
    split at h
    · rename_i hc
      injection h with h; injection h with h1 h2
      refine ⟨p, by rw [hc.1], hc.2, h1.symm, h2.symm, fun e => ?_, fun e => ?_⟩
      · rw [e] at hc; exact adrE_nil_l _ hc.2
      · rw [e] at hc; exact adrE_nil_d _ hc.2
    · cases h
theorem addrS_34 {first : Bool} {s r : Tx} (h : skipS s = 34 :: r) : addrS first s = match quoS r with | none => none | some q => addrS false q := by
  rw [addrS]
  simp only [h, List.head?_cons, if_true, List.tail_cons]
  split <;> rename_i e <;> simp only [h, List.tail_cons] at e <;> rw [e]
theorem addrS_60 {first : Bool} {s r : Tx} (h : skipS s = 60 :: r) : addrS first s = gtS (bareS (runS r) (offS r)) := by
  rw [addrS]
  simp only [h, List.head?_cons, List.tail_cons]
  rw [if_neg (by decide), if_true]
theorem addrS_x {first : Bool} {s : Tx} (h1 : (skipS s).head? ≠ some 34) (h2 : (skipS s).head? ≠ some 60) : addrS first s = if first = true ∧ (offS (skipS s)).head? = some 64 then bareS (runS (skipS s)) (offS (skipS s)) else if runS (skipS s) = [] then none else addrS false (offS (skipS s)) := by
  rw [addrS, if_neg h1, if_neg h2]
  rfl
theorem listS_none {s : Tx} (h : addrS true s = none) : listS s = none := by
  unfold listS; split <;> rename_i e <;> rw [h] at e <;> first | rfl | cases e
theorem listS_some {s r : Tx} {a : Ad} (h : addrS true s = some (a, r)) : listS s = match skipS r with | [] => some [a] | c :: q => if c = 44 then (listS q).map (a :: ·) else none := by
  rw [listS]; split <;> rename_i e <;> rw [h] at e
  · cases e
  · injection e with e; injection e with e1 e2
    subst e1; subst e2
    split <;> rename_i e3 <;> rw [e3]
/-- what a list reads as, with its fault -/
def listR (s : Tx) : List Ad × Int := if 2000 < s.length then ([], 1) else match listS s with | none => ([], 3) | some l => if 20 < l.length then ([], 5) else (l, 0)
end Go.Proofs.YthpkjmbdjnelfaaDoor

namespace Go.Proofs.YthpkjmbdjnelfaaDoor
@[go_sem] theorem ty_0 : (Tryd.prog.underlying 0).isSome = true := by kernel_rfl
@[go_sem] theorem ty_1 : tyI Tryd.prog 0 = some (false, 1) := by kernel_rfl
@[go_sem] theorem ty_2 : isIf Tryd.prog 0 = false := by kernel_rfl
@[go_sem] theorem ty_3 : (Tryd.prog.underlying 1).isSome = true := by kernel_rfl
@[go_sem] theorem ty_4 : tyI Tryd.prog 1 = some (false, 1) := by kernel_rfl
@[go_sem] theorem ty_5 : zI Tryd.prog 1 = some [.nilf] := by kernel_rfl
@[go_sem] theorem ty_6 : isIf Tryd.prog 1 = false := by kernel_rfl
@[go_sem] theorem ty_7 : (Tryd.prog.underlying 2).isSome = true := by kernel_rfl
@[go_sem] theorem ty_8 : tyI Tryd.prog 2 = some (false, 1) := by kernel_rfl
@[go_sem] theorem ty_9 : intI Tryd.prog 2 = some .i64 := by kernel_rfl
@[go_sem] theorem ty_10 : zI Tryd.prog 2 = some [.d (.int .i64 0)] := by kernel_rfl
@[go_sem] theorem ty_11 : isIf Tryd.prog 2 = false := by kernel_rfl
@[go_sem] theorem ty_12 : (Tryd.prog.underlying 3).isSome = true := by kernel_rfl
@[go_sem] theorem ty_13 : tyI Tryd.prog 3 = some (false, 1) := by kernel_rfl
@[go_sem] theorem ty_14 : intI Tryd.prog 3 = some .i64 := by kernel_rfl
@[go_sem] theorem ty_15 : zI Tryd.prog 3 = some [.d (.int .i64 0)] := by kernel_rfl
@[go_sem] theorem ty_16 : isIf Tryd.prog 3 = false := by kernel_rfl
@[go_sem] theorem ty_17 : (Tryd.prog.underlying 4).isSome = true := by kernel_rfl
@[go_sem] theorem ty_18 : tyI Tryd.prog 4 = some (false, 1) := by kernel_rfl
@[go_sem] theorem ty_19 : zI Tryd.prog 4 = some [.d (.bool false)] := by kernel_rfl
@[go_sem] theorem ty_20 : isB Tryd.prog 4 = true := by kernel_rfl
@[go_sem] theorem ty_21 : isIf Tryd.prog 4 = false := by kernel_rfl
@[go_sem] theorem ty_22 : (Tryd.prog.underlying 5).isSome = true := by kernel_rfl
@[go_sem] theorem ty_23 : tyI Tryd.prog 5 = some (false, 1) := by kernel_rfl
@[go_sem] theorem ty_24 : intI Tryd.prog 5 = some .u8 := by kernel_rfl
@[go_sem] theorem ty_25 : zI Tryd.prog 5 = some [.d (.int .u8 0)] := by kernel_rfl
@[go_sem] theorem ty_26 : isIf Tryd.prog 5 = false := by kernel_rfl
@[go_sem] theorem ty_27 : (Tryd.prog.underlying 6).isSome = true := by kernel_rfl
@[go_sem] theorem ty_28 : tyI Tryd.prog 6 = some (false, 1) := by kernel_rfl
@[go_sem] theorem ty_29 : intI Tryd.prog 6 = some .u8 := by kernel_rfl
@[go_sem] theorem ty_30 : zI Tryd.prog 6 = some [.d (.int .u8 0)] := by kernel_rfl
@[go_sem] theorem ty_31 : isIf Tryd.prog 6 = false := by kernel_rfl
@[go_sem] theorem ty_32 : (Tryd.prog.underlying 7).isSome = true := by kernel_rfl
@[go_sem] theorem ty_33 : tyI Tryd.prog 7 = some (true, 4) := by kernel_rfl
@[go_sem] theorem ty_34 : fdI Tryd.prog 7 0 = some (0, 1, false) := by kernel_rfl
@[go_sem] theorem ty_35 : fdI Tryd.prog 7 1 = some (1, 1, false) := by kernel_rfl
@[go_sem] theorem ty_36 : fdI Tryd.prog 7 2 = some (2, 1, false) := by kernel_rfl
@[go_sem] theorem ty_37 : fdI Tryd.prog 7 3 = some (3, 1, false) := by kernel_rfl
@[go_sem] theorem ty_38 : bdI Tryd.prog 7 = some ([.d (.int .i64 0), .d (.int .i64 0), .d (.bool false), .d (.int .u8 0)], [(0, 1), (1, 1), (2, 1), (3, 1)]) := by kernel_rfl
@[go_sem] theorem ty_39 : zI Tryd.prog 7 = some [.d (.int .i64 0), .d (.int .i64 0), .d (.bool false), .d (.int .u8 0)] := by kernel_rfl
@[go_sem] theorem ty_40 : eqI Tryd.prog 7 = some [1, 1, 2, 1] := by kernel_rfl
@[go_sem] theorem ty_41 : isIf Tryd.prog 7 = false := by kernel_rfl
@[go_sem] theorem ty_42 : (Tryd.prog.underlying 8).isSome = true := by kernel_rfl
@[go_sem] theorem ty_43 : tyI Tryd.prog 8 = some (true, 4) := by kernel_rfl
@[go_sem] theorem ty_44 : fdI Tryd.prog 8 0 = some (0, 1, false) := by kernel_rfl
@[go_sem] theorem ty_45 : fdI Tryd.prog 8 1 = some (1, 1, false) := by kernel_rfl
@[go_sem] theorem ty_46 : fdI Tryd.prog 8 2 = some (2, 1, false) := by kernel_rfl
@[go_sem] theorem ty_47 : fdI Tryd.prog 8 3 = some (3, 1, false) := by kernel_rfl
@[go_sem] theorem ty_48 : bdI Tryd.prog 8 = some ([.d (.int .i64 0), .d (.int .i64 0), .d (.bool false), .d (.int .u8 0)], [(0, 1), (1, 1), (2, 1), (3, 1)]) := by kernel_rfl
@[go_sem] theorem ty_49 : zI Tryd.prog 8 = some [.d (.int .i64 0), .d (.int .i64 0), .d (.bool false), .d (.int .u8 0)] := by kernel_rfl
@[go_sem] theorem ty_50 : eqI Tryd.prog 8 = some [1, 1, 2, 1] := by kernel_rfl
@[go_sem] theorem ty_51 : isIf Tryd.prog 8 = false := by kernel_rfl
@[go_sem] theorem ty_52 : (Tryd.prog.underlying 9).isSome = true := by kernel_rfl
@[go_sem] theorem ty_53 : tyI Tryd.prog 9 = some (false, 1) := by kernel_rfl
@[go_sem] theorem ty_54 : zI Tryd.prog 9 = some [.d (.str [])] := by kernel_rfl
@[go_sem] theorem ty_55 : isStr Tryd.prog 9 = true := by kernel_rfl
@[go_sem] theorem ty_56 : isIf Tryd.prog 9 = false := by kernel_rfl
@[go_sem] theorem ty_57 : (Tryd.prog.underlying 10).isSome = true := by kernel_rfl
@[go_sem] theorem ty_58 : tyI Tryd.prog 10 = some (false, 1) := by kernel_rfl
@[go_sem] theorem ty_59 : zI Tryd.prog 10 = some [.d (.str [])] := by kernel_rfl
@[go_sem] theorem ty_60 : isStr Tryd.prog 10 = true := by kernel_rfl
@[go_sem] theorem ty_61 : isIf Tryd.prog 10 = false := by kernel_rfl
@[go_sem] theorem ty_62 : (Tryd.prog.underlying 11).isSome = true := by kernel_rfl
@[go_sem] theorem ty_63 : tyI Tryd.prog 11 = some (false, 1) := by kernel_rfl
@[go_sem] theorem ty_64 : zI Tryd.prog 11 = some [.d (.str [])] := by kernel_rfl
@[go_sem] theorem ty_65 : isStr Tryd.prog 11 = true := by kernel_rfl
@[go_sem] theorem ty_66 : isIf Tryd.prog 11 = false := by kernel_rfl
@[go_sem] theorem ty_67 : (Tryd.prog.underlying 12).isSome = true := by kernel_rfl
@[go_sem] theorem ty_68 : tyI Tryd.prog 12 = some (false, 1) := by kernel_rfl
@[go_sem] theorem ty_69 : intI Tryd.prog 12 = some .u64 := by kernel_rfl
@[go_sem] theorem ty_70 : zI Tryd.prog 12 = some [.d (.int .u64 0)] := by kernel_rfl
@[go_sem] theorem ty_71 : isIf Tryd.prog 12 = false := by kernel_rfl
@[go_sem] theorem ty_72 : (Tryd.prog.underlying 13).isSome = true := by kernel_rfl
@[go_sem] theorem ty_73 : tyI Tryd.prog 13 = some (true, 2) := by kernel_rfl
@[go_sem] theorem ty_74 : fdI Tryd.prog 13 0 = some (0, 1, false) := by kernel_rfl
@[go_sem] theorem ty_75 : fdI Tryd.prog 13 1 = some (1, 1, false) := by kernel_rfl
@[go_sem] theorem ty_76 : bdI Tryd.prog 13 = some ([.d (.str []), .d (.int .u64 0)], [(0, 1), (1, 1)]) := by kernel_rfl
@[go_sem] theorem ty_77 : zI Tryd.prog 13 = some [.d (.str []), .d (.int .u64 0)] := by kernel_rfl
@[go_sem] theorem ty_78 : isIf Tryd.prog 13 = false := by kernel_rfl
@[go_sem] theorem ty_79 : (Tryd.prog.underlying 14).isSome = true := by kernel_rfl
@[go_sem] theorem ty_80 : tyI Tryd.prog 14 = some (true, 2) := by kernel_rfl
@[go_sem] theorem ty_81 : fdI Tryd.prog 14 0 = some (0, 1, false) := by kernel_rfl
@[go_sem] theorem ty_82 : fdI Tryd.prog 14 1 = some (1, 1, false) := by kernel_rfl
@[go_sem] theorem ty_83 : bdI Tryd.prog 14 = some ([.d (.str []), .d (.int .u64 0)], [(0, 1), (1, 1)]) := by kernel_rfl
@[go_sem] theorem ty_84 : zI Tryd.prog 14 = some [.d (.str []), .d (.int .u64 0)] := by kernel_rfl
@[go_sem] theorem ty_85 : isIf Tryd.prog 14 = false := by kernel_rfl
@[go_sem] theorem ty_86 : (Tryd.prog.underlying 15).isSome = true := by kernel_rfl
@[go_sem] theorem ty_87 : tyI Tryd.prog 15 = some (false, 1) := by kernel_rfl
@[go_sem] theorem ty_88 : zI Tryd.prog 15 = some [.nilp] := by kernel_rfl
@[go_sem] theorem ty_89 : isIf Tryd.prog 15 = false := by kernel_rfl
@[go_sem] theorem ty_90 : (Tryd.prog.underlying 16).isSome = true := by kernel_rfl
@[go_sem] theorem ty_91 : tyI Tryd.prog 16 = some (false, 1) := by kernel_rfl
@[go_sem] theorem ty_92 : zI Tryd.prog 16 = some [.nilp] := by kernel_rfl
@[go_sem] theorem ty_93 : isIf Tryd.prog 16 = false := by kernel_rfl
@[go_sem] theorem ty_94 : (Tryd.prog.underlying 17).isSome = true := by kernel_rfl
@[go_sem] theorem ty_95 : tyI Tryd.prog 17 = some (false, 1) := by kernel_rfl
@[go_sem] theorem ty_96 : zI Tryd.prog 17 = some [.nilp] := by kernel_rfl
@[go_sem] theorem ty_97 : isIf Tryd.prog 17 = false := by kernel_rfl
@[go_sem] theorem ty_98 : (Tryd.prog.underlying 18).isSome = true := by kernel_rfl
@[go_sem] theorem ty_99 : tyI Tryd.prog 18 = some (true, 1) := by kernel_rfl
@[go_sem] theorem ty_100 : fdI Tryd.prog 18 0 = some (0, 1, false) := by kernel_rfl
@[go_sem] theorem ty_101 : bdI Tryd.prog 18 = some ([.nilp], [(0, 1)]) := by kernel_rfl
@[go_sem] theorem ty_102 : zI Tryd.prog 18 = some [.nilp] := by kernel_rfl
@[go_sem] theorem ty_103 : isIf Tryd.prog 18 = false := by kernel_rfl
@[go_sem] theorem ty_104 : (Tryd.prog.underlying 19).isSome = true := by kernel_rfl
@[go_sem] theorem ty_105 : tyI Tryd.prog 19 = some (true, 1) := by kernel_rfl
@[go_sem] theorem ty_106 : fdI Tryd.prog 19 0 = some (0, 1, false) := by kernel_rfl
@[go_sem] theorem ty_107 : bdI Tryd.prog 19 = some ([.nilp], [(0, 1)]) := by kernel_rfl
@[go_sem] theorem ty_108 : zI Tryd.prog 19 = some [.nilp] := by kernel_rfl
@[go_sem] theorem ty_109 : isIf Tryd.prog 19 = false := by kernel_rfl
@[go_sem] theorem ty_110 : (Tryd.prog.underlying 20).isSome = true := by kernel_rfl
@[go_sem] theorem ty_111 : tyI Tryd.prog 20 = some (false, 1) := by kernel_rfl
@[go_sem] theorem ty_112 : zI Tryd.prog 20 = some [.nili] := by kernel_rfl
@[go_sem] theorem ty_113 : isE Tryd.prog 20 = true := by kernel_rfl
@[go_sem] theorem ty_114 : isIf Tryd.prog 20 = true := by kernel_rfl
@[go_sem] theorem ty_115 : (Tryd.prog.underlying 21).isSome = true := by kernel_rfl
@[go_sem] theorem ty_116 : tyI Tryd.prog 21 = some (false, 1) := by kernel_rfl
@[go_sem] theorem ty_117 : intI Tryd.prog 21 = some .i32 := by kernel_rfl
@[go_sem] theorem ty_118 : zI Tryd.prog 21 = some [.d (.int .i32 0)] := by kernel_rfl
@[go_sem] theorem ty_119 : isIf Tryd.prog 21 = false := by kernel_rfl
@[go_sem] theorem ty_120 : (Tryd.prog.underlying 22).isSome = true := by kernel_rfl
@[go_sem] theorem ty_121 : tyI Tryd.prog 22 = some (true, 2) := by kernel_rfl
@[go_sem] theorem ty_122 : fdI Tryd.prog 22 0 = some (0, 1, false) := by kernel_rfl
@[go_sem] theorem ty_123 : fdI Tryd.prog 22 1 = some (1, 1, false) := by kernel_rfl
@[go_sem] theorem ty_124 : bdI Tryd.prog 22 = some ([.d (.str []), .d (.str [])], [(0, 1), (1, 1)]) := by kernel_rfl
@[go_sem] theorem ty_125 : zI Tryd.prog 22 = some [.d (.str []), .d (.str [])] := by kernel_rfl
@[go_sem] theorem ty_126 : eqI Tryd.prog 22 = some [3, 3] := by kernel_rfl
@[go_sem] theorem ty_127 : isIf Tryd.prog 22 = false := by kernel_rfl
@[go_sem] theorem ty_128 : (Tryd.prog.underlying 23).isSome = true := by kernel_rfl
@[go_sem] theorem ty_129 : tyI Tryd.prog 23 = some (true, 2) := by kernel_rfl
@[go_sem] theorem ty_130 : fdI Tryd.prog 23 0 = some (0, 1, false) := by kernel_rfl
@[go_sem] theorem ty_131 : fdI Tryd.prog 23 1 = some (1, 1, false) := by kernel_rfl
@[go_sem] theorem ty_132 : bdI Tryd.prog 23 = some ([.d (.str []), .d (.str [])], [(0, 1), (1, 1)]) := by kernel_rfl
@[go_sem] theorem ty_133 : zI Tryd.prog 23 = some [.d (.str []), .d (.str [])] := by kernel_rfl
@[go_sem] theorem ty_134 : eqI Tryd.prog 23 = some [3, 3] := by kernel_rfl
@[go_sem] theorem ty_135 : isIf Tryd.prog 23 = false := by kernel_rfl
@[go_sem] theorem ty_136 : (Tryd.prog.underlying 24).isSome = true := by kernel_rfl
@[go_sem] theorem ty_137 : tyI Tryd.prog 24 = some (false, 1) := by kernel_rfl
@[go_sem] theorem ty_138 : slI Tryd.prog 24 = some (23, 2, 32) := by kernel_rfl
@[go_sem] theorem ty_139 : zI Tryd.prog 24 = some [.nils] := by kernel_rfl
@[go_sem] theorem ty_140 : isIf Tryd.prog 24 = false := by kernel_rfl
@[go_sem] theorem ty_141 : isBytes Tryd.prog 24 = false := by kernel_rfl
@[go_sem] theorem ty_142 : isSl Tryd.prog 24 = true := by kernel_rfl
@[go_sem] theorem ty_143 : (Tryd.prog.underlying 25).isSome = true := by kernel_rfl
@[go_sem] theorem ty_144 : tyI Tryd.prog 25 = some (true, 6) := by kernel_rfl
@[go_sem] theorem ty_145 : fdI Tryd.prog 25 0 = some (0, 1, false) := by kernel_rfl
@[go_sem] theorem ty_146 : fdI Tryd.prog 25 1 = some (1, 2, true) := by kernel_rfl
@[go_sem] theorem ty_147 : fdI Tryd.prog 25 2 = some (3, 1, false) := by kernel_rfl
@[go_sem] theorem ty_148 : fdI Tryd.prog 25 3 = some (4, 1, false) := by kernel_rfl
@[go_sem] theorem ty_149 : fdI Tryd.prog 25 4 = some (5, 1, false) := by kernel_rfl
@[go_sem] theorem ty_150 : bdI Tryd.prog 25 = some ([.d (.int .i64 0), .d (.str []), .d (.str []), .nils, .d (.str []), .d (.bool false)], [(0, 1), (1, 2), (3, 1), (4, 1), (5, 1)]) := by kernel_rfl
@[go_sem] theorem ty_151 : zI Tryd.prog 25 = some [.d (.int .i64 0), .d (.str []), .d (.str []), .nils, .d (.str []), .d (.bool false)] := by kernel_rfl
@[go_sem] theorem ty_152 : isIf Tryd.prog 25 = false := by kernel_rfl
@[go_sem] theorem ty_153 : (Tryd.prog.underlying 26).isSome = true := by kernel_rfl
@[go_sem] theorem ty_154 : tyI Tryd.prog 26 = some (true, 6) := by kernel_rfl
@[go_sem] theorem ty_155 : fdI Tryd.prog 26 0 = some (0, 1, false) := by kernel_rfl
@[go_sem] theorem ty_156 : fdI Tryd.prog 26 1 = some (1, 2, true) := by kernel_rfl
@[go_sem] theorem ty_157 : fdI Tryd.prog 26 2 = some (3, 1, false) := by kernel_rfl
@[go_sem] theorem ty_158 : fdI Tryd.prog 26 3 = some (4, 1, false) := by kernel_rfl
@[go_sem] theorem ty_159 : fdI Tryd.prog 26 4 = some (5, 1, false) := by kernel_rfl
@[go_sem] theorem ty_160 : bdI Tryd.prog 26 = some ([.d (.int .i64 0), .d (.str []), .d (.str []), .nils, .d (.str []), .d (.bool false)], [(0, 1), (1, 2), (3, 1), (4, 1), (5, 1)]) := by kernel_rfl
@[go_sem] theorem ty_161 : zI Tryd.prog 26 = some [.d (.int .i64 0), .d (.str []), .d (.str []), .nils, .d (.str []), .d (.bool false)] := by kernel_rfl
@[go_sem] theorem ty_162 : isIf Tryd.prog 26 = false := by kernel_rfl
@[go_sem] theorem ty_163 : (Tryd.prog.underlying 27).isSome = true := by kernel_rfl
@[go_sem] theorem ty_164 : tyI Tryd.prog 27 = some (false, 1) := by kernel_rfl
@[go_sem] theorem ty_165 : slI Tryd.prog 27 = some (9, 1, 16) := by kernel_rfl
@[go_sem] theorem ty_166 : zI Tryd.prog 27 = some [.nils] := by kernel_rfl
@[go_sem] theorem ty_167 : isIf Tryd.prog 27 = false := by kernel_rfl
@[go_sem] theorem ty_168 : isBytes Tryd.prog 27 = false := by kernel_rfl
@[go_sem] theorem ty_169 : isSl Tryd.prog 27 = true := by kernel_rfl
@[go_sem] theorem ty_170 : (Tryd.prog.underlying 28).isSome = true := by kernel_rfl
@[go_sem] theorem ty_171 : tyI Tryd.prog 28 = some (false, 1) := by kernel_rfl
@[go_sem] theorem ty_172 : zI Tryd.prog 28 = some [.nilf] := by kernel_rfl
@[go_sem] theorem ty_173 : isIf Tryd.prog 28 = false := by kernel_rfl
@[go_sem] theorem ty_174 : (Tryd.prog.underlying 29).isSome = true := by kernel_rfl
@[go_sem] theorem ty_175 : tyI Tryd.prog 29 = some (false, 1) := by kernel_rfl
@[go_sem] theorem ty_176 : slI Tryd.prog 29 = some (61, 5, 80) := by kernel_rfl
@[go_sem] theorem ty_177 : zI Tryd.prog 29 = some [.nils] := by kernel_rfl
@[go_sem] theorem ty_178 : isIf Tryd.prog 29 = false := by kernel_rfl
@[go_sem] theorem ty_179 : isBytes Tryd.prog 29 = false := by kernel_rfl
@[go_sem] theorem ty_180 : isSl Tryd.prog 29 = true := by kernel_rfl
@[go_sem] theorem ty_181 : (Tryd.prog.underlying 30).isSome = true := by kernel_rfl
@[go_sem] theorem ty_182 : tyI Tryd.prog 30 = some (false, 1) := by kernel_rfl
@[go_sem] theorem ty_183 : intI Tryd.prog 30 = some .i64 := by kernel_rfl
@[go_sem] theorem ty_184 : zI Tryd.prog 30 = some [.d (.int .i64 0)] := by kernel_rfl
@[go_sem] theorem ty_185 : isIf Tryd.prog 30 = false := by kernel_rfl
@[go_sem] theorem ty_186 : (Tryd.prog.underlying 31).isSome = true := by kernel_rfl
@[go_sem] theorem ty_187 : tyI Tryd.prog 31 = some (false, 1) := by kernel_rfl
@[go_sem] theorem ty_188 : isIf Tryd.prog 31 = false := by kernel_rfl
@[go_sem] theorem ty_189 : (Tryd.prog.underlying 32).isSome = true := by kernel_rfl
@[go_sem] theorem ty_190 : tyI Tryd.prog 32 = some (false, 1) := by kernel_rfl
@[go_sem] theorem ty_191 : zI Tryd.prog 32 = some [.nilf] := by kernel_rfl
@[go_sem] theorem ty_192 : isIf Tryd.prog 32 = false := by kernel_rfl
@[go_sem] theorem ty_193 : (Tryd.prog.underlying 33).isSome = true := by kernel_rfl
@[go_sem] theorem ty_194 : tyI Tryd.prog 33 = some (false, 1) := by kernel_rfl
@[go_sem] theorem ty_195 : zI Tryd.prog 33 = some [.nilf] := by kernel_rfl
@[go_sem] theorem ty_196 : isIf Tryd.prog 33 = false := by kernel_rfl
@[go_sem] theorem ty_197 : (Tryd.prog.underlying 34).isSome = true := by kernel_rfl
@[go_sem] theorem ty_198 : tyI Tryd.prog 34 = some (false, 1) := by kernel_rfl
@[go_sem] theorem ty_199 : zI Tryd.prog 34 = some [.nilf] := by kernel_rfl
@[go_sem] theorem ty_200 : isIf Tryd.prog 34 = false := by kernel_rfl
@[go_sem] theorem ty_201 : (Tryd.prog.underlying 35).isSome = true := by kernel_rfl
@[go_sem] theorem ty_202 : tyI Tryd.prog 35 = some (false, 1) := by kernel_rfl
@[go_sem] theorem ty_203 : zI Tryd.prog 35 = some [.nilf] := by kernel_rfl
@[go_sem] theorem ty_204 : isIf Tryd.prog 35 = false := by kernel_rfl
@[go_sem] theorem ty_205 : (Tryd.prog.underlying 36).isSome = true := by kernel_rfl
@[go_sem] theorem ty_206 : tyI Tryd.prog 36 = some (false, 1) := by kernel_rfl
@[go_sem] theorem ty_207 : zI Tryd.prog 36 = some [.nilf] := by kernel_rfl
@[go_sem] theorem ty_208 : isIf Tryd.prog 36 = false := by kernel_rfl
@[go_sem] theorem ty_209 : (Tryd.prog.underlying 37).isSome = true := by kernel_rfl
@[go_sem] theorem ty_210 : tyI Tryd.prog 37 = some (false, 1) := by kernel_rfl
@[go_sem] theorem ty_211 : slI Tryd.prog 37 = some (70, 3, 32) := by kernel_rfl
@[go_sem] theorem ty_212 : zI Tryd.prog 37 = some [.nils] := by kernel_rfl
@[go_sem] theorem ty_213 : isIf Tryd.prog 37 = false := by kernel_rfl
@[go_sem] theorem ty_214 : isBytes Tryd.prog 37 = false := by kernel_rfl
@[go_sem] theorem ty_215 : isSl Tryd.prog 37 = true := by kernel_rfl
@[go_sem] theorem ty_216 : (Tryd.prog.underlying 38).isSome = true := by kernel_rfl
@[go_sem] theorem ty_217 : tyI Tryd.prog 38 = some (false, 1) := by kernel_rfl
@[go_sem] theorem ty_218 : zI Tryd.prog 38 = some [.nilf] := by kernel_rfl
@[go_sem] theorem ty_219 : isIf Tryd.prog 38 = false := by kernel_rfl
@[go_sem] theorem ty_220 : (Tryd.prog.underlying 39).isSome = true := by kernel_rfl
@[go_sem] theorem ty_221 : tyI Tryd.prog 39 = some (false, 1) := by kernel_rfl
@[go_sem] theorem ty_222 : isIf Tryd.prog 39 = false := by kernel_rfl
@[go_sem] theorem ty_223 : (Tryd.prog.underlying 40).isSome = true := by kernel_rfl
@[go_sem] theorem ty_224 : tyI Tryd.prog 40 = some (false, 1) := by kernel_rfl
@[go_sem] theorem ty_225 : zI Tryd.prog 40 = some [.nilf] := by kernel_rfl
@[go_sem] theorem ty_226 : isIf Tryd.prog 40 = false := by kernel_rfl
@[go_sem] theorem ty_227 : (Tryd.prog.underlying 41).isSome = true := by kernel_rfl
@[go_sem] theorem ty_228 : tyI Tryd.prog 41 = some (false, 1) := by kernel_rfl
@[go_sem] theorem ty_229 : zI Tryd.prog 41 = some [.nilf] := by kernel_rfl
@[go_sem] theorem ty_230 : isIf Tryd.prog 41 = false := by kernel_rfl
@[go_sem] theorem ty_231 : (Tryd.prog.underlying 42).isSome = true := by kernel_rfl
@[go_sem] theorem ty_232 : tyI Tryd.prog 42 = some (false, 1) := by kernel_rfl
@[go_sem] theorem ty_233 : zI Tryd.prog 42 = some [.nilf] := by kernel_rfl
@[go_sem] theorem ty_234 : isIf Tryd.prog 42 = false := by kernel_rfl
@[go_sem] theorem ty_235 : (Tryd.prog.underlying 43).isSome = true := by kernel_rfl
@[go_sem] theorem ty_236 : tyI Tryd.prog 43 = some (false, 1) := by kernel_rfl
@[go_sem] theorem ty_237 : slI Tryd.prog 43 = some (91, 12, 192) := by kernel_rfl
@[go_sem] theorem ty_238 : zI Tryd.prog 43 = some [.nils] := by kernel_rfl
@[go_sem] theorem ty_239 : isIf Tryd.prog 43 = false := by kernel_rfl
@[go_sem] theorem ty_240 : isBytes Tryd.prog 43 = false := by kernel_rfl
@[go_sem] theorem ty_241 : isSl Tryd.prog 43 = true := by kernel_rfl
@[go_sem] theorem ty_242 : (Tryd.prog.underlying 44).isSome = true := by kernel_rfl
@[go_sem] theorem ty_243 : tyI Tryd.prog 44 = some (false, 1) := by kernel_rfl
@[go_sem] theorem ty_244 : isIf Tryd.prog 44 = false := by kernel_rfl
@[go_sem] theorem ty_245 : (Tryd.prog.underlying 45).isSome = true := by kernel_rfl
@[go_sem] theorem ty_246 : tyI Tryd.prog 45 = some (false, 1) := by kernel_rfl
@[go_sem] theorem ty_247 : zI Tryd.prog 45 = some [.nilf] := by kernel_rfl
@[go_sem] theorem ty_248 : isIf Tryd.prog 45 = false := by kernel_rfl
@[go_sem] theorem ty_249 : (Tryd.prog.underlying 46).isSome = true := by kernel_rfl
@[go_sem] theorem ty_250 : tyI Tryd.prog 46 = some (false, 1) := by kernel_rfl
@[go_sem] theorem ty_251 : zI Tryd.prog 46 = some [.nilf] := by kernel_rfl
@[go_sem] theorem ty_252 : isIf Tryd.prog 46 = false := by kernel_rfl
@[go_sem] theorem ty_253 : (Tryd.prog.underlying 47).isSome = true := by kernel_rfl
@[go_sem] theorem ty_254 : tyI Tryd.prog 47 = some (false, 1) := by kernel_rfl
@[go_sem] theorem ty_255 : zI Tryd.prog 47 = some [.nilf] := by kernel_rfl
@[go_sem] theorem ty_256 : isIf Tryd.prog 47 = false := by kernel_rfl
@[go_sem] theorem ty_257 : (Tryd.prog.underlying 48).isSome = true := by kernel_rfl
@[go_sem] theorem ty_258 : tyI Tryd.prog 48 = some (false, 1) := by kernel_rfl
@[go_sem] theorem ty_259 : zI Tryd.prog 48 = some [.nilf] := by kernel_rfl
@[go_sem] theorem ty_260 : isIf Tryd.prog 48 = false := by kernel_rfl
@[go_sem] theorem ty_261 : (Tryd.prog.underlying 49).isSome = true := by kernel_rfl
@[go_sem] theorem ty_262 : tyI Tryd.prog 49 = some (false, 1) := by kernel_rfl
@[go_sem] theorem ty_263 : zI Tryd.prog 49 = some [.nilf] := by kernel_rfl
@[go_sem] theorem ty_264 : isIf Tryd.prog 49 = false := by kernel_rfl
@[go_sem] theorem ty_265 : (Tryd.prog.underlying 50).isSome = true := by kernel_rfl
@[go_sem] theorem ty_266 : tyI Tryd.prog 50 = some (false, 1) := by kernel_rfl
@[go_sem] theorem ty_267 : isIf Tryd.prog 50 = false := by kernel_rfl
@[go_sem] theorem ty_268 : (Tryd.prog.underlying 51).isSome = true := by kernel_rfl
@[go_sem] theorem ty_269 : tyI Tryd.prog 51 = some (false, 1) := by kernel_rfl
@[go_sem] theorem ty_270 : zI Tryd.prog 51 = some [.nilf] := by kernel_rfl
@[go_sem] theorem ty_271 : isIf Tryd.prog 51 = false := by kernel_rfl
@[go_sem] theorem ty_272 : (Tryd.prog.underlying 52).isSome = true := by kernel_rfl
@[go_sem] theorem ty_273 : tyI Tryd.prog 52 = some (false, 1) := by kernel_rfl
@[go_sem] theorem ty_274 : zI Tryd.prog 52 = some [.nilf] := by kernel_rfl
@[go_sem] theorem ty_275 : isIf Tryd.prog 52 = false := by kernel_rfl
@[go_sem] theorem ty_276 : (Tryd.prog.underlying 53).isSome = true := by kernel_rfl
@[go_sem] theorem ty_277 : tyI Tryd.prog 53 = some (false, 1) := by kernel_rfl
@[go_sem] theorem ty_278 : zI Tryd.prog 53 = some [.nilf] := by kernel_rfl
@[go_sem] theorem ty_279 : isIf Tryd.prog 53 = false := by kernel_rfl
@[go_sem] theorem ty_280 : (Tryd.prog.underlying 54).isSome = true := by kernel_rfl
@[go_sem] theorem ty_281 : tyI Tryd.prog 54 = some (false, 1) := by kernel_rfl
@[go_sem] theorem ty_282 : zI Tryd.prog 54 = some [.nilp] := by kernel_rfl
@[go_sem] theorem ty_283 : isIf Tryd.prog 54 = false := by kernel_rfl
@[go_sem] theorem ty_284 : (Tryd.prog.underlying 55).isSome = true := by kernel_rfl
@[go_sem] theorem ty_285 : tyI Tryd.prog 55 = some (true, 6) := by kernel_rfl
@[go_sem] theorem ty_286 : fdI Tryd.prog 55 0 = some (0, 6, true) := by kernel_rfl
@[go_sem] theorem ty_287 : bdI Tryd.prog 55 = some ([.d (.int .i64 0), .d (.str []), .d (.str []), .nils, .d (.str []), .d (.bool false)], [(0, 6)]) := by kernel_rfl
@[go_sem] theorem ty_288 : zI Tryd.prog 55 = some [.d (.int .i64 0), .d (.str []), .d (.str []), .nils, .d (.str []), .d (.bool false)] := by kernel_rfl
@[go_sem] theorem ty_289 : isIf Tryd.prog 55 = false := by kernel_rfl
@[go_sem] theorem ty_290 : (Tryd.prog.underlying 56).isSome = true := by kernel_rfl
@[go_sem] theorem ty_291 : tyI Tryd.prog 56 = some (true, 6) := by kernel_rfl
@[go_sem] theorem ty_292 : fdI Tryd.prog 56 0 = some (0, 6, true) := by kernel_rfl
@[go_sem] theorem ty_293 : bdI Tryd.prog 56 = some ([.d (.int .i64 0), .d (.str []), .d (.str []), .nils, .d (.str []), .d (.bool false)], [(0, 6)]) := by kernel_rfl
@[go_sem] theorem ty_294 : zI Tryd.prog 56 = some [.d (.int .i64 0), .d (.str []), .d (.str []), .nils, .d (.str []), .d (.bool false)] := by kernel_rfl
@[go_sem] theorem ty_295 : isIf Tryd.prog 56 = false := by kernel_rfl
@[go_sem] theorem ty_296 : (Tryd.prog.underlying 57).isSome = true := by kernel_rfl
@[go_sem] theorem ty_297 : tyI Tryd.prog 57 = some (false, 1) := by kernel_rfl
@[go_sem] theorem ty_298 : zI Tryd.prog 57 = some [.nilf] := by kernel_rfl
@[go_sem] theorem ty_299 : isIf Tryd.prog 57 = false := by kernel_rfl
@[go_sem] theorem ty_300 : (Tryd.prog.underlying 58).isSome = true := by kernel_rfl
@[go_sem] theorem ty_301 : tyI Tryd.prog 58 = some (false, 1) := by kernel_rfl
@[go_sem] theorem ty_302 : zI Tryd.prog 58 = some [.nilf] := by kernel_rfl
@[go_sem] theorem ty_303 : isIf Tryd.prog 58 = false := by kernel_rfl
@[go_sem] theorem ty_304 : (Tryd.prog.underlying 59).isSome = true := by kernel_rfl
@[go_sem] theorem ty_305 : tyI Tryd.prog 59 = some (false, 1) := by kernel_rfl
@[go_sem] theorem ty_306 : zI Tryd.prog 59 = some [.nilf] := by kernel_rfl
@[go_sem] theorem ty_307 : isIf Tryd.prog 59 = false := by kernel_rfl
@[go_sem] theorem ty_308 : (Tryd.prog.underlying 60).isSome = true := by kernel_rfl
@[go_sem] theorem ty_309 : tyI Tryd.prog 60 = some (true, 5) := by kernel_rfl
@[go_sem] theorem ty_310 : fdI Tryd.prog 60 0 = some (0, 2, true) := by kernel_rfl
@[go_sem] theorem ty_311 : fdI Tryd.prog 60 1 = some (2, 2, true) := by kernel_rfl
@[go_sem] theorem ty_312 : fdI Tryd.prog 60 2 = some (4, 1, false) := by kernel_rfl
@[go_sem] theorem ty_313 : bdI Tryd.prog 60 = some ([.d (.str []), .d (.str []), .d (.str []), .d (.str []), .d (.str [])], [(0, 2), (2, 2), (4, 1)]) := by kernel_rfl
@[go_sem] theorem ty_314 : zI Tryd.prog 60 = some [.d (.str []), .d (.str []), .d (.str []), .d (.str []), .d (.str [])] := by kernel_rfl
@[go_sem] theorem ty_315 : eqI Tryd.prog 60 = some [3, 3, 3, 3, 3] := by kernel_rfl
@[go_sem] theorem ty_316 : isIf Tryd.prog 60 = false := by kernel_rfl
@[go_sem] theorem ty_317 : (Tryd.prog.underlying 61).isSome = true := by kernel_rfl
@[go_sem] theorem ty_318 : tyI Tryd.prog 61 = some (true, 5) := by kernel_rfl
@[go_sem] theorem ty_319 : fdI Tryd.prog 61 0 = some (0, 2, true) := by kernel_rfl
@[go_sem] theorem ty_320 : fdI Tryd.prog 61 1 = some (2, 2, true) := by kernel_rfl
@[go_sem] theorem ty_321 : fdI Tryd.prog 61 2 = some (4, 1, false) := by kernel_rfl
@[go_sem] theorem ty_322 : bdI Tryd.prog 61 = some ([.d (.str []), .d (.str []), .d (.str []), .d (.str []), .d (.str [])], [(0, 2), (2, 2), (4, 1)]) := by kernel_rfl
@[go_sem] theorem ty_323 : zI Tryd.prog 61 = some [.d (.str []), .d (.str []), .d (.str []), .d (.str []), .d (.str [])] := by kernel_rfl
@[go_sem] theorem ty_324 : eqI Tryd.prog 61 = some [3, 3, 3, 3, 3] := by kernel_rfl
@[go_sem] theorem ty_325 : isIf Tryd.prog 61 = false := by kernel_rfl
@[go_sem] theorem ty_326 : (Tryd.prog.underlying 62).isSome = true := by kernel_rfl
@[go_sem] theorem ty_327 : tyI Tryd.prog 62 = some (false, 1) := by kernel_rfl
@[go_sem] theorem ty_328 : isIf Tryd.prog 62 = false := by kernel_rfl
@[go_sem] theorem ty_329 : (Tryd.prog.underlying 63).isSome = true := by kernel_rfl
@[go_sem] theorem ty_330 : tyI Tryd.prog 63 = some (false, 1) := by kernel_rfl
@[go_sem] theorem ty_331 : zI Tryd.prog 63 = some [.nilf] := by kernel_rfl
@[go_sem] theorem ty_332 : isIf Tryd.prog 63 = false := by kernel_rfl
@[go_sem] theorem ty_333 : (Tryd.prog.underlying 64).isSome = true := by kernel_rfl
@[go_sem] theorem ty_334 : tyI Tryd.prog 64 = some (false, 1) := by kernel_rfl
@[go_sem] theorem ty_335 : zI Tryd.prog 64 = some [.nilf] := by kernel_rfl
@[go_sem] theorem ty_336 : isIf Tryd.prog 64 = false := by kernel_rfl
@[go_sem] theorem ty_337 : (Tryd.prog.underlying 65).isSome = true := by kernel_rfl
@[go_sem] theorem ty_338 : tyI Tryd.prog 65 = some (false, 1) := by kernel_rfl
@[go_sem] theorem ty_339 : zI Tryd.prog 65 = some [.nilp] := by kernel_rfl
@[go_sem] theorem ty_340 : isIf Tryd.prog 65 = false := by kernel_rfl
@[go_sem] theorem ty_341 : (Tryd.prog.underlying 66).isSome = true := by kernel_rfl
@[go_sem] theorem ty_342 : tyI Tryd.prog 66 = some (false, 1) := by kernel_rfl
@[go_sem] theorem ty_343 : slI Tryd.prog 66 = some (5, 1, 1) := by kernel_rfl
@[go_sem] theorem ty_344 : zI Tryd.prog 66 = some [.nils] := by kernel_rfl
@[go_sem] theorem ty_345 : isIf Tryd.prog 66 = false := by kernel_rfl
@[go_sem] theorem ty_346 : isBytes Tryd.prog 66 = true := by kernel_rfl
@[go_sem] theorem ty_347 : isSl Tryd.prog 66 = true := by kernel_rfl
@[go_sem] theorem ty_348 : (Tryd.prog.underlying 67).isSome = true := by kernel_rfl
@[go_sem] theorem ty_349 : tyI Tryd.prog 67 = some (true, 2) := by kernel_rfl
@[go_sem] theorem ty_350 : fdI Tryd.prog 67 0 = some (0, 1, false) := by kernel_rfl
@[go_sem] theorem ty_351 : fdI Tryd.prog 67 1 = some (1, 1, false) := by kernel_rfl
@[go_sem] theorem ty_352 : bdI Tryd.prog 67 = some ([.nilp, .nils], [(0, 1), (1, 1)]) := by kernel_rfl
@[go_sem] theorem ty_353 : zI Tryd.prog 67 = some [.nilp, .nils] := by kernel_rfl
@[go_sem] theorem ty_354 : isIf Tryd.prog 67 = false := by kernel_rfl
@[go_sem] theorem ty_355 : (Tryd.prog.underlying 68).isSome = true := by kernel_rfl
@[go_sem] theorem ty_356 : tyI Tryd.prog 68 = some (true, 2) := by kernel_rfl
@[go_sem] theorem ty_357 : fdI Tryd.prog 68 0 = some (0, 1, false) := by kernel_rfl
@[go_sem] theorem ty_358 : fdI Tryd.prog 68 1 = some (1, 1, false) := by kernel_rfl
@[go_sem] theorem ty_359 : bdI Tryd.prog 68 = some ([.nilp, .nils], [(0, 1), (1, 1)]) := by kernel_rfl
@[go_sem] theorem ty_360 : zI Tryd.prog 68 = some [.nilp, .nils] := by kernel_rfl
@[go_sem] theorem ty_361 : isIf Tryd.prog 68 = false := by kernel_rfl
@[go_sem] theorem ty_362 : (Tryd.prog.underlying 69).isSome = true := by kernel_rfl
@[go_sem] theorem ty_363 : tyI Tryd.prog 69 = some (true, 3) := by kernel_rfl
@[go_sem] theorem ty_364 : fdI Tryd.prog 69 0 = some (0, 1, false) := by kernel_rfl
@[go_sem] theorem ty_365 : fdI Tryd.prog 69 1 = some (1, 1, false) := by kernel_rfl
@[go_sem] theorem ty_366 : fdI Tryd.prog 69 2 = some (2, 1, false) := by kernel_rfl
@[go_sem] theorem ty_367 : bdI Tryd.prog 69 = some ([.d (.int .i64 0), .d (.str []), .d (.int .i64 0)], [(0, 1), (1, 1), (2, 1)]) := by kernel_rfl
@[go_sem] theorem ty_368 : zI Tryd.prog 69 = some [.d (.int .i64 0), .d (.str []), .d (.int .i64 0)] := by kernel_rfl
@[go_sem] theorem ty_369 : eqI Tryd.prog 69 = some [1, 3, 1] := by kernel_rfl
@[go_sem] theorem ty_370 : isIf Tryd.prog 69 = false := by kernel_rfl
@[go_sem] theorem ty_371 : (Tryd.prog.underlying 70).isSome = true := by kernel_rfl
@[go_sem] theorem ty_372 : tyI Tryd.prog 70 = some (true, 3) := by kernel_rfl
@[go_sem] theorem ty_373 : fdI Tryd.prog 70 0 = some (0, 1, false) := by kernel_rfl
@[go_sem] theorem ty_374 : fdI Tryd.prog 70 1 = some (1, 1, false) := by kernel_rfl
@[go_sem] theorem ty_375 : fdI Tryd.prog 70 2 = some (2, 1, false) := by kernel_rfl
@[go_sem] theorem ty_376 : bdI Tryd.prog 70 = some ([.d (.int .i64 0), .d (.str []), .d (.int .i64 0)], [(0, 1), (1, 1), (2, 1)]) := by kernel_rfl
@[go_sem] theorem ty_377 : zI Tryd.prog 70 = some [.d (.int .i64 0), .d (.str []), .d (.int .i64 0)] := by kernel_rfl
@[go_sem] theorem ty_378 : eqI Tryd.prog 70 = some [1, 3, 1] := by kernel_rfl
@[go_sem] theorem ty_379 : isIf Tryd.prog 70 = false := by kernel_rfl
@[go_sem] theorem ty_380 : (Tryd.prog.underlying 71).isSome = true := by kernel_rfl
@[go_sem] theorem ty_381 : tyI Tryd.prog 71 = some (false, 1) := by kernel_rfl
@[go_sem] theorem ty_382 : zI Tryd.prog 71 = some [.nilf] := by kernel_rfl
@[go_sem] theorem ty_383 : isIf Tryd.prog 71 = false := by kernel_rfl
@[go_sem] theorem ty_384 : (Tryd.prog.underlying 72).isSome = true := by kernel_rfl
@[go_sem] theorem ty_385 : tyI Tryd.prog 72 = some (false, 1) := by kernel_rfl
@[go_sem] theorem ty_386 : zI Tryd.prog 72 = some [.nili] := by kernel_rfl
@[go_sem] theorem ty_387 : isIf Tryd.prog 72 = true := by kernel_rfl
@[go_sem] theorem ty_388 : (Tryd.prog.underlying 73).isSome = true := by kernel_rfl
@[go_sem] theorem ty_389 : tyI Tryd.prog 73 = some (false, 1) := by kernel_rfl
@[go_sem] theorem ty_390 : zI Tryd.prog 73 = some [.nili] := by kernel_rfl
@[go_sem] theorem ty_391 : isIf Tryd.prog 73 = true := by kernel_rfl
@[go_sem] theorem ty_392 : (Tryd.prog.underlying 74).isSome = true := by kernel_rfl
@[go_sem] theorem ty_393 : tyI Tryd.prog 74 = some (false, 1) := by kernel_rfl
@[go_sem] theorem ty_394 : isIf Tryd.prog 74 = false := by kernel_rfl
@[go_sem] theorem ty_395 : (Tryd.prog.underlying 75).isSome = true := by kernel_rfl
@[go_sem] theorem ty_396 : tyI Tryd.prog 75 = some (false, 1) := by kernel_rfl
@[go_sem] theorem ty_397 : zI Tryd.prog 75 = some [.nilf] := by kernel_rfl
@[go_sem] theorem ty_398 : isIf Tryd.prog 75 = false := by kernel_rfl
@[go_sem] theorem ty_399 : (Tryd.prog.underlying 76).isSome = true := by kernel_rfl
@[go_sem] theorem ty_400 : tyI Tryd.prog 76 = some (false, 1) := by kernel_rfl
@[go_sem] theorem ty_401 : zI Tryd.prog 76 = some [.nilf] := by kernel_rfl
@[go_sem] theorem ty_402 : isIf Tryd.prog 76 = false := by kernel_rfl
@[go_sem] theorem ty_403 : (Tryd.prog.underlying 77).isSome = true := by kernel_rfl
@[go_sem] theorem ty_404 : tyI Tryd.prog 77 = some (false, 1) := by kernel_rfl
@[go_sem] theorem ty_405 : zI Tryd.prog 77 = some [.nilf] := by kernel_rfl
@[go_sem] theorem ty_406 : isIf Tryd.prog 77 = false := by kernel_rfl
@[go_sem] theorem ty_407 : (Tryd.prog.underlying 78).isSome = true := by kernel_rfl
@[go_sem] theorem ty_408 : tyI Tryd.prog 78 = some (false, 1) := by kernel_rfl
@[go_sem] theorem ty_409 : zI Tryd.prog 78 = some [.nilf] := by kernel_rfl
@[go_sem] theorem ty_410 : isIf Tryd.prog 78 = false := by kernel_rfl
@[go_sem] theorem ty_411 : (Tryd.prog.underlying 79).isSome = true := by kernel_rfl
@[go_sem] theorem ty_412 : tyI Tryd.prog 79 = some (false, 1) := by kernel_rfl
@[go_sem] theorem ty_413 : zI Tryd.prog 79 = some [.nilf] := by kernel_rfl
@[go_sem] theorem ty_414 : isIf Tryd.prog 79 = false := by kernel_rfl
@[go_sem] theorem ty_415 : (Tryd.prog.underlying 80).isSome = true := by kernel_rfl
@[go_sem] theorem ty_416 : tyI Tryd.prog 80 = some (false, 1) := by kernel_rfl
@[go_sem] theorem ty_417 : zI Tryd.prog 80 = some [.nilf] := by kernel_rfl
@[go_sem] theorem ty_418 : isIf Tryd.prog 80 = false := by kernel_rfl
@[go_sem] theorem ty_419 : (Tryd.prog.underlying 81).isSome = true := by kernel_rfl
@[go_sem] theorem ty_420 : tyI Tryd.prog 81 = some (false, 1) := by kernel_rfl
@[go_sem] theorem ty_421 : zI Tryd.prog 81 = some [.nilf] := by kernel_rfl
@[go_sem] theorem ty_422 : isIf Tryd.prog 81 = false := by kernel_rfl
@[go_sem] theorem ty_423 : (Tryd.prog.underlying 82).isSome = true := by kernel_rfl
@[go_sem] theorem ty_424 : tyI Tryd.prog 82 = some (true, 2) := by kernel_rfl
@[go_sem] theorem ty_425 : fdI Tryd.prog 82 0 = some (0, 1, false) := by kernel_rfl
@[go_sem] theorem ty_426 : fdI Tryd.prog 82 1 = some (1, 1, false) := by kernel_rfl
@[go_sem] theorem ty_427 : bdI Tryd.prog 82 = some ([.d (.int .i64 0), .d (.int .i64 0)], [(0, 1), (1, 1)]) := by kernel_rfl
@[go_sem] theorem ty_428 : zI Tryd.prog 82 = some [.d (.int .i64 0), .d (.int .i64 0)] := by kernel_rfl
@[go_sem] theorem ty_429 : eqI Tryd.prog 82 = some [1, 1] := by kernel_rfl
@[go_sem] theorem ty_430 : isIf Tryd.prog 82 = false := by kernel_rfl
@[go_sem] theorem ty_431 : (Tryd.prog.underlying 83).isSome = true := by kernel_rfl
@[go_sem] theorem ty_432 : tyI Tryd.prog 83 = some (true, 2) := by kernel_rfl
@[go_sem] theorem ty_433 : fdI Tryd.prog 83 0 = some (0, 1, false) := by kernel_rfl
@[go_sem] theorem ty_434 : fdI Tryd.prog 83 1 = some (1, 1, false) := by kernel_rfl
@[go_sem] theorem ty_435 : bdI Tryd.prog 83 = some ([.d (.int .i64 0), .d (.int .i64 0)], [(0, 1), (1, 1)]) := by kernel_rfl
@[go_sem] theorem ty_436 : zI Tryd.prog 83 = some [.d (.int .i64 0), .d (.int .i64 0)] := by kernel_rfl
@[go_sem] theorem ty_437 : eqI Tryd.prog 83 = some [1, 1] := by kernel_rfl
@[go_sem] theorem ty_438 : isIf Tryd.prog 83 = false := by kernel_rfl
@[go_sem] theorem ty_439 : (Tryd.prog.underlying 84).isSome = true := by kernel_rfl
@[go_sem] theorem ty_440 : tyI Tryd.prog 84 = some (false, 1) := by kernel_rfl
@[go_sem] theorem ty_441 : zI Tryd.prog 84 = some [.nilp] := by kernel_rfl
@[go_sem] theorem ty_442 : isIf Tryd.prog 84 = false := by kernel_rfl
@[go_sem] theorem ty_443 : (Tryd.prog.underlying 85).isSome = true := by kernel_rfl
@[go_sem] theorem ty_444 : tyI Tryd.prog 85 = some (true, 2) := by kernel_rfl
@[go_sem] theorem ty_445 : fdI Tryd.prog 85 0 = some (0, 1, false) := by kernel_rfl
@[go_sem] theorem ty_446 : fdI Tryd.prog 85 1 = some (1, 1, false) := by kernel_rfl
@[go_sem] theorem ty_447 : bdI Tryd.prog 85 = some ([.nils, .d (.int .i64 0)], [(0, 1), (1, 1)]) := by kernel_rfl
@[go_sem] theorem ty_448 : zI Tryd.prog 85 = some [.nils, .d (.int .i64 0)] := by kernel_rfl
@[go_sem] theorem ty_449 : isIf Tryd.prog 85 = false := by kernel_rfl
@[go_sem] theorem ty_450 : (Tryd.prog.underlying 86).isSome = true := by kernel_rfl
@[go_sem] theorem ty_451 : tyI Tryd.prog 86 = some (true, 2) := by kernel_rfl
@[go_sem] theorem ty_452 : fdI Tryd.prog 86 0 = some (0, 1, false) := by kernel_rfl
@[go_sem] theorem ty_453 : fdI Tryd.prog 86 1 = some (1, 1, false) := by kernel_rfl
@[go_sem] theorem ty_454 : bdI Tryd.prog 86 = some ([.nils, .d (.int .i64 0)], [(0, 1), (1, 1)]) := by kernel_rfl
@[go_sem] theorem ty_455 : zI Tryd.prog 86 = some [.nils, .d (.int .i64 0)] := by kernel_rfl
@[go_sem] theorem ty_456 : isIf Tryd.prog 86 = false := by kernel_rfl
@[go_sem] theorem ty_457 : (Tryd.prog.underlying 87).isSome = true := by kernel_rfl
@[go_sem] theorem ty_458 : tyI Tryd.prog 87 = some (false, 1) := by kernel_rfl
@[go_sem] theorem ty_459 : slI Tryd.prog 87 = some (89, 8, 112) := by kernel_rfl
@[go_sem] theorem ty_460 : zI Tryd.prog 87 = some [.nils] := by kernel_rfl
@[go_sem] theorem ty_461 : isIf Tryd.prog 87 = false := by kernel_rfl
@[go_sem] theorem ty_462 : isBytes Tryd.prog 87 = false := by kernel_rfl
@[go_sem] theorem ty_463 : isSl Tryd.prog 87 = true := by kernel_rfl
@[go_sem] theorem ty_464 : (Tryd.prog.underlying 88).isSome = true := by kernel_rfl
@[go_sem] theorem ty_465 : tyI Tryd.prog 88 = some (true, 8) := by kernel_rfl
@[go_sem] theorem ty_466 : fdI Tryd.prog 88 0 = some (0, 1, false) := by kernel_rfl
@[go_sem] theorem ty_467 : fdI Tryd.prog 88 1 = some (1, 1, false) := by kernel_rfl
@[go_sem] theorem ty_468 : fdI Tryd.prog 88 2 = some (2, 1, false) := by kernel_rfl
@[go_sem] theorem ty_469 : fdI Tryd.prog 88 3 = some (3, 1, false) := by kernel_rfl
@[go_sem] theorem ty_470 : fdI Tryd.prog 88 4 = some (4, 1, false) := by kernel_rfl
@[go_sem] theorem ty_471 : fdI Tryd.prog 88 5 = some (5, 1, false) := by kernel_rfl
@[go_sem] theorem ty_472 : fdI Tryd.prog 88 6 = some (6, 1, false) := by kernel_rfl
@[go_sem] theorem ty_473 : fdI Tryd.prog 88 7 = some (7, 1, false) := by kernel_rfl
@[go_sem] theorem ty_474 : bdI Tryd.prog 88 = some ([.d (.int .i64 0), .d (.int .i64 0), .d (.int .i64 0), .nils, .nils, .d (.bool false), .d (.int .i64 0), .nils], [(0, 1), (1, 1), (2, 1), (3, 1), (4, 1), (5, 1), (6, 1), (7, 1)]) := by kernel_rfl
@[go_sem] theorem ty_475 : zI Tryd.prog 88 = some [.d (.int .i64 0), .d (.int .i64 0), .d (.int .i64 0), .nils, .nils, .d (.bool false), .d (.int .i64 0), .nils] := by kernel_rfl
@[go_sem] theorem ty_476 : isIf Tryd.prog 88 = false := by kernel_rfl
@[go_sem] theorem ty_477 : (Tryd.prog.underlying 89).isSome = true := by kernel_rfl
@[go_sem] theorem ty_478 : tyI Tryd.prog 89 = some (true, 8) := by kernel_rfl
@[go_sem] theorem ty_479 : fdI Tryd.prog 89 0 = some (0, 1, false) := by kernel_rfl
@[go_sem] theorem ty_480 : fdI Tryd.prog 89 1 = some (1, 1, false) := by kernel_rfl
@[go_sem] theorem ty_481 : fdI Tryd.prog 89 2 = some (2, 1, false) := by kernel_rfl
@[go_sem] theorem ty_482 : fdI Tryd.prog 89 3 = some (3, 1, false) := by kernel_rfl
@[go_sem] theorem ty_483 : fdI Tryd.prog 89 4 = some (4, 1, false) := by kernel_rfl
@[go_sem] theorem ty_484 : fdI Tryd.prog 89 5 = some (5, 1, false) := by kernel_rfl
@[go_sem] theorem ty_485 : fdI Tryd.prog 89 6 = some (6, 1, false) := by kernel_rfl
@[go_sem] theorem ty_486 : fdI Tryd.prog 89 7 = some (7, 1, false) := by kernel_rfl
@[go_sem] theorem ty_487 : bdI Tryd.prog 89 = some ([.d (.int .i64 0), .d (.int .i64 0), .d (.int .i64 0), .nils, .nils, .d (.bool false), .d (.int .i64 0), .nils], [(0, 1), (1, 1), (2, 1), (3, 1), (4, 1), (5, 1), (6, 1), (7, 1)]) := by kernel_rfl
@[go_sem] theorem ty_488 : zI Tryd.prog 89 = some [.d (.int .i64 0), .d (.int .i64 0), .d (.int .i64 0), .nils, .nils, .d (.bool false), .d (.int .i64 0), .nils] := by kernel_rfl
@[go_sem] theorem ty_489 : isIf Tryd.prog 89 = false := by kernel_rfl
@[go_sem] theorem ty_490 : (Tryd.prog.underlying 90).isSome = true := by kernel_rfl
@[go_sem] theorem ty_491 : tyI Tryd.prog 90 = some (true, 12) := by kernel_rfl
@[go_sem] theorem ty_492 : fdI Tryd.prog 90 0 = some (0, 1, false) := by kernel_rfl
@[go_sem] theorem ty_493 : fdI Tryd.prog 90 1 = some (1, 1, false) := by kernel_rfl
@[go_sem] theorem ty_494 : fdI Tryd.prog 90 2 = some (2, 8, true) := by kernel_rfl
@[go_sem] theorem ty_495 : fdI Tryd.prog 90 3 = some (10, 1, false) := by kernel_rfl
@[go_sem] theorem ty_496 : fdI Tryd.prog 90 4 = some (11, 1, false) := by kernel_rfl
@[go_sem] theorem ty_497 : bdI Tryd.prog 90 = some ([.d (.int .i64 0), .nils, .d (.int .i64 0), .d (.int .i64 0), .d (.int .i64 0), .nils, .nils, .d (.bool false), .d (.int .i64 0), .nils, .nils, .nils], [(0, 1), (1, 1), (2, 8), (10, 1), (11, 1)]) := by kernel_rfl
@[go_sem] theorem ty_498 : zI Tryd.prog 90 = some [.d (.int .i64 0), .nils, .d (.int .i64 0), .d (.int .i64 0), .d (.int .i64 0), .nils, .nils, .d (.bool false), .d (.int .i64 0), .nils, .nils, .nils] := by kernel_rfl
@[go_sem] theorem ty_499 : isIf Tryd.prog 90 = false := by kernel_rfl
@[go_sem] theorem ty_500 : (Tryd.prog.underlying 91).isSome = true := by kernel_rfl
@[go_sem] theorem ty_501 : tyI Tryd.prog 91 = some (true, 12) := by kernel_rfl
@[go_sem] theorem ty_502 : fdI Tryd.prog 91 0 = some (0, 1, false) := by kernel_rfl
@[go_sem] theorem ty_503 : fdI Tryd.prog 91 1 = some (1, 1, false) := by kernel_rfl
@[go_sem] theorem ty_504 : fdI Tryd.prog 91 2 = some (2, 8, true) := by kernel_rfl
@[go_sem] theorem ty_505 : fdI Tryd.prog 91 3 = some (10, 1, false) := by kernel_rfl
@[go_sem] theorem ty_506 : fdI Tryd.prog 91 4 = some (11, 1, false) := by kernel_rfl
@[go_sem] theorem ty_507 : bdI Tryd.prog 91 = some ([.d (.int .i64 0), .nils, .d (.int .i64 0), .d (.int .i64 0), .d (.int .i64 0), .nils, .nils, .d (.bool false), .d (.int .i64 0), .nils, .nils, .nils], [(0, 1), (1, 1), (2, 8), (10, 1), (11, 1)]) := by kernel_rfl
@[go_sem] theorem ty_508 : zI Tryd.prog 91 = some [.d (.int .i64 0), .nils, .d (.int .i64 0), .d (.int .i64 0), .d (.int .i64 0), .nils, .nils, .d (.bool false), .d (.int .i64 0), .nils, .nils, .nils] := by kernel_rfl
@[go_sem] theorem ty_509 : isIf Tryd.prog 91 = false := by kernel_rfl
@[go_sem] theorem ty_510 : (Tryd.prog.underlying 92).isSome = true := by kernel_rfl
@[go_sem] theorem ty_511 : tyI Tryd.prog 92 = some (false, 1) := by kernel_rfl
@[go_sem] theorem ty_512 : zI Tryd.prog 92 = some [.nilf] := by kernel_rfl
@[go_sem] theorem ty_513 : isIf Tryd.prog 92 = false := by kernel_rfl
@[go_sem] theorem ty_514 : (Tryd.prog.underlying 93).isSome = true := by kernel_rfl
@[go_sem] theorem ty_515 : tyI Tryd.prog 93 = some (false, 1) := by kernel_rfl
@[go_sem] theorem ty_516 : zI Tryd.prog 93 = some [.nilp] := by kernel_rfl
@[go_sem] theorem ty_517 : isIf Tryd.prog 93 = false := by kernel_rfl
@[go_sem] theorem ty_518 : (Tryd.prog.underlying 94).isSome = true := by kernel_rfl
@[go_sem] theorem ty_519 : tyI Tryd.prog 94 = some (true, 3) := by kernel_rfl
@[go_sem] theorem ty_520 : fdI Tryd.prog 94 0 = some (0, 1, false) := by kernel_rfl
@[go_sem] theorem ty_521 : fdI Tryd.prog 94 1 = some (1, 1, false) := by kernel_rfl
@[go_sem] theorem ty_522 : fdI Tryd.prog 94 2 = some (2, 1, false) := by kernel_rfl
@[go_sem] theorem ty_523 : bdI Tryd.prog 94 = some ([.nils, .d (.int .i64 0), .d (.int .i64 0)], [(0, 1), (1, 1), (2, 1)]) := by kernel_rfl
@[go_sem] theorem ty_524 : zI Tryd.prog 94 = some [.nils, .d (.int .i64 0), .d (.int .i64 0)] := by kernel_rfl
@[go_sem] theorem ty_525 : isIf Tryd.prog 94 = false := by kernel_rfl
@[go_sem] theorem ty_526 : (Tryd.prog.underlying 95).isSome = true := by kernel_rfl
@[go_sem] theorem ty_527 : tyI Tryd.prog 95 = some (true, 3) := by kernel_rfl
@[go_sem] theorem ty_528 : fdI Tryd.prog 95 0 = some (0, 1, false) := by kernel_rfl
@[go_sem] theorem ty_529 : fdI Tryd.prog 95 1 = some (1, 1, false) := by kernel_rfl
@[go_sem] theorem ty_530 : fdI Tryd.prog 95 2 = some (2, 1, false) := by kernel_rfl
@[go_sem] theorem ty_531 : bdI Tryd.prog 95 = some ([.nils, .d (.int .i64 0), .d (.int .i64 0)], [(0, 1), (1, 1), (2, 1)]) := by kernel_rfl
@[go_sem] theorem ty_532 : zI Tryd.prog 95 = some [.nils, .d (.int .i64 0), .d (.int .i64 0)] := by kernel_rfl
@[go_sem] theorem ty_533 : isIf Tryd.prog 95 = false := by kernel_rfl
@[go_sem] theorem ty_534 : (Tryd.prog.underlying 96).isSome = true := by kernel_rfl
@[go_sem] theorem ty_535 : tyI Tryd.prog 96 = some (false, 1) := by kernel_rfl
@[go_sem] theorem ty_536 : isIf Tryd.prog 96 = false := by kernel_rfl
@[go_sem] theorem ty_537 : (Tryd.prog.underlying 97).isSome = true := by kernel_rfl
@[go_sem] theorem ty_538 : tyI Tryd.prog 97 = some (false, 1) := by kernel_rfl
@[go_sem] theorem ty_539 : zI Tryd.prog 97 = some [.nilf] := by kernel_rfl
@[go_sem] theorem ty_540 : isIf Tryd.prog 97 = false := by kernel_rfl
@[go_sem] theorem ty_541 : (Tryd.prog.underlying 98).isSome = true := by kernel_rfl
@[go_sem] theorem ty_542 : tyI Tryd.prog 98 = some (false, 1) := by kernel_rfl
@[go_sem] theorem ty_543 : zI Tryd.prog 98 = some [.nilf] := by kernel_rfl
@[go_sem] theorem ty_544 : isIf Tryd.prog 98 = false := by kernel_rfl
@[go_sem] theorem ty_545 : (Tryd.prog.underlying 99).isSome = true := by kernel_rfl
@[go_sem] theorem ty_546 : tyI Tryd.prog 99 = some (false, 1) := by kernel_rfl
@[go_sem] theorem ty_547 : zI Tryd.prog 99 = some [.nilf] := by kernel_rfl
@[go_sem] theorem ty_548 : isIf Tryd.prog 99 = false := by kernel_rfl
@[go_sem] theorem ty_549 : (Tryd.prog.underlying 100).isSome = true := by kernel_rfl
@[go_sem] theorem ty_550 : tyI Tryd.prog 100 = some (false, 1) := by kernel_rfl
@[go_sem] theorem ty_551 : zI Tryd.prog 100 = some [.nilp] := by kernel_rfl
@[go_sem] theorem ty_552 : isIf Tryd.prog 100 = false := by kernel_rfl
@[go_sem] theorem ty_553 : (Tryd.prog.underlying 101).isSome = true := by kernel_rfl
@[go_sem] theorem ty_554 : tyI Tryd.prog 101 = some (false, 1) := by kernel_rfl
@[go_sem] theorem ty_555 : isIf Tryd.prog 101 = false := by kernel_rfl
@[go_sem] theorem ty_556 : (Tryd.prog.underlying 102).isSome = true := by kernel_rfl
@[go_sem] theorem ty_557 : tyI Tryd.prog 102 = some (true, 1) := by kernel_rfl
@[go_sem] theorem ty_558 : fdI Tryd.prog 102 0 = some (0, 1, false) := by kernel_rfl
@[go_sem] theorem ty_559 : isIf Tryd.prog 102 = false := by kernel_rfl
@[go_sem] theorem ty_560 : (Tryd.prog.underlying 103).isSome = true := by kernel_rfl
@[go_sem] theorem ty_561 : tyI Tryd.prog 103 = some (true, 1) := by kernel_rfl
@[go_sem] theorem ty_562 : fdI Tryd.prog 103 0 = some (0, 1, false) := by kernel_rfl
@[go_sem] theorem ty_563 : isIf Tryd.prog 103 = false := by kernel_rfl
@[go_sem] theorem ty_564 : (Tryd.prog.underlying 104).isSome = true := by kernel_rfl
@[go_sem] theorem ty_565 : tyI Tryd.prog 104 = some (false, 1) := by kernel_rfl
@[go_sem] theorem ty_566 : zI Tryd.prog 104 = some [.nilf] := by kernel_rfl
@[go_sem] theorem ty_567 : isIf Tryd.prog 104 = false := by kernel_rfl
@[go_sem] theorem ty_568 : (Tryd.prog.underlying 105).isSome = true := by kernel_rfl
@[go_sem] theorem ty_569 : tyI Tryd.prog 105 = some (true, 4) := by kernel_rfl
@[go_sem] theorem ty_570 : arI Tryd.prog 105 = some (4, 1, false) := by kernel_rfl
@[go_sem] theorem ty_571 : bdI Tryd.prog 105 = some ([.d (.str []), .d (.str []), .d (.str []), .d (.str [])], [(0, 1), (1, 1), (2, 1), (3, 1)]) := by kernel_rfl
@[go_sem] theorem ty_572 : zI Tryd.prog 105 = some [.d (.str []), .d (.str []), .d (.str []), .d (.str [])] := by kernel_rfl
@[go_sem] theorem ty_573 : isIf Tryd.prog 105 = false := by kernel_rfl
@[go_sem] theorem ty_574 : (Tryd.prog.underlying 106).isSome = true := by kernel_rfl
@[go_sem] theorem ty_575 : tyI Tryd.prog 106 = some (true, 0) := by kernel_rfl
@[go_sem] theorem ty_576 : bdI Tryd.prog 106 = some ([], []) := by kernel_rfl
@[go_sem] theorem ty_577 : zI Tryd.prog 106 = some [] := by kernel_rfl
@[go_sem] theorem ty_578 : eqI Tryd.prog 106 = some [] := by kernel_rfl
@[go_sem] theorem ty_579 : isIf Tryd.prog 106 = false := by kernel_rfl
@[go_sem] theorem ty_580 : (Tryd.prog.underlying 107).isSome = true := by kernel_rfl
@[go_sem] theorem ty_581 : tyI Tryd.prog 107 = some (false, 1) := by kernel_rfl
@[go_sem] theorem ty_582 : zI Tryd.prog 107 = some [.nilf] := by kernel_rfl
@[go_sem] theorem ty_583 : isIf Tryd.prog 107 = false := by kernel_rfl
@[go_sem] theorem ty_584 : (Tryd.prog.underlying 108).isSome = true := by kernel_rfl
@[go_sem] theorem ty_585 : tyI Tryd.prog 108 = some (false, 1) := by kernel_rfl
@[go_sem] theorem ty_586 : zI Tryd.prog 108 = some [.nilp] := by kernel_rfl
@[go_sem] theorem ty_587 : isIf Tryd.prog 108 = false := by kernel_rfl
@[go_sem] theorem ty_588 : (Tryd.prog.underlying 109).isSome = true := by kernel_rfl
@[go_sem] theorem ty_589 : tyI Tryd.prog 109 = some (true, 2) := by kernel_rfl
@[go_sem] theorem ty_590 : fdI Tryd.prog 109 0 = some (0, 1, false) := by kernel_rfl
@[go_sem] theorem ty_591 : fdI Tryd.prog 109 1 = some (1, 1, false) := by kernel_rfl
@[go_sem] theorem ty_592 : bdI Tryd.prog 109 = some ([.d (.str []), .d (.int .i64 0)], [(0, 1), (1, 1)]) := by kernel_rfl
@[go_sem] theorem ty_593 : zI Tryd.prog 109 = some [.d (.str []), .d (.int .i64 0)] := by kernel_rfl
@[go_sem] theorem ty_594 : eqI Tryd.prog 109 = some [3, 1] := by kernel_rfl
@[go_sem] theorem ty_595 : isIf Tryd.prog 109 = false := by kernel_rfl
@[go_sem] theorem ty_596 : (Tryd.prog.underlying 110).isSome = true := by kernel_rfl
@[go_sem] theorem ty_597 : tyI Tryd.prog 110 = some (true, 2) := by kernel_rfl
@[go_sem] theorem ty_598 : fdI Tryd.prog 110 0 = some (0, 1, false) := by kernel_rfl
@[go_sem] theorem ty_599 : fdI Tryd.prog 110 1 = some (1, 1, false) := by kernel_rfl
@[go_sem] theorem ty_600 : bdI Tryd.prog 110 = some ([.d (.str []), .d (.int .i64 0)], [(0, 1), (1, 1)]) := by kernel_rfl
@[go_sem] theorem ty_601 : zI Tryd.prog 110 = some [.d (.str []), .d (.int .i64 0)] := by kernel_rfl
@[go_sem] theorem ty_602 : eqI Tryd.prog 110 = some [3, 1] := by kernel_rfl
@[go_sem] theorem ty_603 : isIf Tryd.prog 110 = false := by kernel_rfl
@[go_sem] theorem ty_604 : (Tryd.prog.underlying 111).isSome = true := by kernel_rfl
@[go_sem] theorem ty_605 : tyI Tryd.prog 111 = some (false, 1) := by kernel_rfl
@[go_sem] theorem ty_606 : zI Tryd.prog 111 = some [.nilf] := by kernel_rfl
@[go_sem] theorem ty_607 : isIf Tryd.prog 111 = false := by kernel_rfl
@[go_sem] theorem ty_608 : (Tryd.prog.underlying 112).isSome = true := by kernel_rfl
@[go_sem] theorem ty_609 : tyI Tryd.prog 112 = some (false, 1) := by kernel_rfl
@[go_sem] theorem ty_610 : isIf Tryd.prog 112 = false := by kernel_rfl
@[go_sem] theorem ty_611 : (Tryd.prog.underlying 113).isSome = true := by kernel_rfl
@[go_sem] theorem ty_612 : tyI Tryd.prog 113 = some (false, 1) := by kernel_rfl
@[go_sem] theorem ty_613 : zI Tryd.prog 113 = some [.nilf] := by kernel_rfl
@[go_sem] theorem ty_614 : isIf Tryd.prog 113 = false := by kernel_rfl
@[go_sem] theorem ty_615 : (Tryd.prog.underlying 114).isSome = true := by kernel_rfl
@[go_sem] theorem ty_616 : tyI Tryd.prog 114 = some (false, 1) := by kernel_rfl
@[go_sem] theorem ty_617 : isIf Tryd.prog 114 = false := by kernel_rfl
@[go_sem] theorem ty_618 : (Tryd.prog.underlying 115).isSome = true := by kernel_rfl
@[go_sem] theorem ty_619 : tyI Tryd.prog 115 = some (false, 1) := by kernel_rfl
@[go_sem] theorem ty_620 : zI Tryd.prog 115 = some [.nilf] := by kernel_rfl
@[go_sem] theorem ty_621 : isIf Tryd.prog 115 = false := by kernel_rfl
@[go_sem] theorem ty_622 : (Tryd.prog.underlying 116).isSome = true := by kernel_rfl
@[go_sem] theorem ty_623 : tyI Tryd.prog 116 = some (false, 1) := by kernel_rfl
@[go_sem] theorem ty_624 : isIf Tryd.prog 116 = false := by kernel_rfl
@[go_sem] theorem ty_625 : (Tryd.prog.underlying 117).isSome = true := by kernel_rfl
@[go_sem] theorem ty_626 : tyI Tryd.prog 117 = some (false, 1) := by kernel_rfl
@[go_sem] theorem ty_627 : zI Tryd.prog 117 = some [.nilf] := by kernel_rfl
@[go_sem] theorem ty_628 : isIf Tryd.prog 117 = false := by kernel_rfl
@[go_sem] theorem ty_629 : (Tryd.prog.underlying 118).isSome = true := by kernel_rfl
@[go_sem] theorem ty_630 : tyI Tryd.prog 118 = some (false, 1) := by kernel_rfl
@[go_sem] theorem ty_631 : zI Tryd.prog 118 = some [.nilf] := by kernel_rfl
@[go_sem] theorem ty_632 : isIf Tryd.prog 118 = false := by kernel_rfl
@[go_sem] theorem ty_633 : (Tryd.prog.underlying 119).isSome = true := by kernel_rfl
@[go_sem] theorem ty_634 : tyI Tryd.prog 119 = some (false, 1) := by kernel_rfl
@[go_sem] theorem ty_635 : zI Tryd.prog 119 = some [.nilf] := by kernel_rfl
@[go_sem] theorem ty_636 : isIf Tryd.prog 119 = false := by kernel_rfl
@[go_sem] theorem ty_637 : (Tryd.prog.underlying 120).isSome = true := by kernel_rfl
@[go_sem] theorem ty_638 : tyI Tryd.prog 120 = some (false, 1) := by kernel_rfl
@[go_sem] theorem ty_639 : isIf Tryd.prog 120 = false := by kernel_rfl
@[go_sem] theorem ty_640 : (Tryd.prog.underlying 121).isSome = true := by kernel_rfl
@[go_sem] theorem ty_641 : tyI Tryd.prog 121 = some (false, 1) := by kernel_rfl
@[go_sem] theorem ty_642 : zI Tryd.prog 121 = some [.nilf] := by kernel_rfl
@[go_sem] theorem ty_643 : isIf Tryd.prog 121 = false := by kernel_rfl
@[go_sem] theorem ty_644 : (Tryd.prog.underlying 122).isSome = true := by kernel_rfl
@[go_sem] theorem ty_645 : tyI Tryd.prog 122 = some (false, 1) := by kernel_rfl
@[go_sem] theorem ty_646 : zI Tryd.prog 122 = some [.nilf] := by kernel_rfl
@[go_sem] theorem ty_647 : isIf Tryd.prog 122 = false := by kernel_rfl
@[go_sem] theorem ty_648 : (Tryd.prog.underlying 123).isSome = true := by kernel_rfl
@[go_sem] theorem ty_649 : tyI Tryd.prog 123 = some (false, 1) := by kernel_rfl
@[go_sem] theorem ty_650 : zI Tryd.prog 123 = some [.nilf] := by kernel_rfl
@[go_sem] theorem ty_651 : isIf Tryd.prog 123 = false := by kernel_rfl
@[go_sem] theorem ty_652 : (Tryd.prog.underlying 124).isSome = true := by kernel_rfl
@[go_sem] theorem ty_653 : tyI Tryd.prog 124 = some (false, 1) := by kernel_rfl
@[go_sem] theorem ty_654 : zI Tryd.prog 124 = some [.nilf] := by kernel_rfl
@[go_sem] theorem ty_655 : isIf Tryd.prog 124 = false := by kernel_rfl
@[go_sem] theorem ty_656 : (Tryd.prog.underlying 125).isSome = true := by kernel_rfl
@[go_sem] theorem ty_657 : tyI Tryd.prog 125 = some (false, 1) := by kernel_rfl
@[go_sem] theorem ty_658 : zI Tryd.prog 125 = some [.nilf] := by kernel_rfl
@[go_sem] theorem ty_659 : isIf Tryd.prog 125 = false := by kernel_rfl
@[go_sem] theorem ty_660 : (Tryd.prog.underlying 126).isSome = true := by kernel_rfl
@[go_sem] theorem ty_661 : tyI Tryd.prog 126 = some (false, 1) := by kernel_rfl
@[go_sem] theorem ty_662 : isIf Tryd.prog 126 = false := by kernel_rfl
@[go_sem] theorem ty_663 : (Tryd.prog.underlying 127).isSome = true := by kernel_rfl
@[go_sem] theorem ty_664 : tyI Tryd.prog 127 = some (false, 1) := by kernel_rfl
@[go_sem] theorem ty_665 : zI Tryd.prog 127 = some [.nilf] := by kernel_rfl
@[go_sem] theorem ty_666 : isIf Tryd.prog 127 = false := by kernel_rfl
@[go_sem] theorem ty_667 : (Tryd.prog.underlying 128).isSome = true := by kernel_rfl
@[go_sem] theorem ty_668 : tyI Tryd.prog 128 = some (false, 1) := by kernel_rfl
@[go_sem] theorem ty_669 : isIf Tryd.prog 128 = false := by kernel_rfl
@[go_sem] theorem ty_670 : (Tryd.prog.underlying 129).isSome = true := by kernel_rfl
@[go_sem] theorem ty_671 : tyI Tryd.prog 129 = some (false, 1) := by kernel_rfl
@[go_sem] theorem ty_672 : zI Tryd.prog 129 = some [.nilf] := by kernel_rfl
@[go_sem] theorem ty_673 : isIf Tryd.prog 129 = false := by kernel_rfl
@[go_sem] theorem ty_674 : (Tryd.prog.underlying 130).isSome = true := by kernel_rfl
@[go_sem] theorem ty_675 : tyI Tryd.prog 130 = some (false, 1) := by kernel_rfl
@[go_sem] theorem ty_676 : zI Tryd.prog 130 = some [.nilf] := by kernel_rfl
@[go_sem] theorem ty_677 : isIf Tryd.prog 130 = false := by kernel_rfl
@[go_sem] theorem ty_678 : (Tryd.prog.underlying 131).isSome = true := by kernel_rfl
@[go_sem] theorem ty_679 : tyI Tryd.prog 131 = some (false, 1) := by kernel_rfl
@[go_sem] theorem ty_680 : zI Tryd.prog 131 = some [.nilf] := by kernel_rfl
@[go_sem] theorem ty_681 : isIf Tryd.prog 131 = false := by kernel_rfl
@[go_sem] theorem ty_682 : (Tryd.prog.underlying 132).isSome = true := by kernel_rfl
@[go_sem] theorem ty_683 : tyI Tryd.prog 132 = some (false, 1) := by kernel_rfl
@[go_sem] theorem ty_684 : zI Tryd.prog 132 = some [.nilf] := by kernel_rfl
@[go_sem] theorem ty_685 : isIf Tryd.prog 132 = false := by kernel_rfl
@[go_sem] theorem ty_686 : (Tryd.prog.underlying 133).isSome = true := by kernel_rfl
@[go_sem] theorem ty_687 : tyI Tryd.prog 133 = some (false, 1) := by kernel_rfl
@[go_sem] theorem ty_688 : zI Tryd.prog 133 = some [.nilf] := by kernel_rfl
@[go_sem] theorem ty_689 : isIf Tryd.prog 133 = false := by kernel_rfl
@[go_sem] theorem ty_690 : (Tryd.prog.underlying 134).isSome = true := by kernel_rfl
@[go_sem] theorem ty_691 : tyI Tryd.prog 134 = some (false, 1) := by kernel_rfl
@[go_sem] theorem ty_692 : zI Tryd.prog 134 = some [.nilp] := by kernel_rfl
@[go_sem] theorem ty_693 : isIf Tryd.prog 134 = false := by kernel_rfl
@[go_sem] theorem ty_694 : (Tryd.prog.underlying 135).isSome = true := by kernel_rfl
@[go_sem] theorem ty_695 : tyI Tryd.prog 135 = some (false, 1) := by kernel_rfl
@[go_sem] theorem ty_696 : zI Tryd.prog 135 = some [.nilf] := by kernel_rfl
@[go_sem] theorem ty_697 : isIf Tryd.prog 135 = false := by kernel_rfl
@[go_sem] theorem ty_698 : (Tryd.prog.underlying 136).isSome = true := by kernel_rfl
@[go_sem] theorem ty_699 : tyI Tryd.prog 136 = some (false, 1) := by kernel_rfl
@[go_sem] theorem ty_700 : zI Tryd.prog 136 = some [.nilf] := by kernel_rfl
@[go_sem] theorem ty_701 : isIf Tryd.prog 136 = false := by kernel_rfl
@[go_sem] theorem ty_702 : (Tryd.prog.underlying 137).isSome = true := by kernel_rfl
@[go_sem] theorem ty_703 : tyI Tryd.prog 137 = some (false, 1) := by kernel_rfl
@[go_sem] theorem ty_704 : zI Tryd.prog 137 = some [.nilf] := by kernel_rfl
@[go_sem] theorem ty_705 : isIf Tryd.prog 137 = false := by kernel_rfl
@[go_sem] theorem ty_706 : (Tryd.prog.underlying 138).isSome = true := by kernel_rfl
@[go_sem] theorem ty_707 : tyI Tryd.prog 138 = some (true, 11) := by kernel_rfl
@[go_sem] theorem ty_708 : arI Tryd.prog 138 = some (11, 1, false) := by kernel_rfl
@[go_sem] theorem ty_709 : bdI Tryd.prog 138 = some ([.d (.str []), .d (.str []), .d (.str []), .d (.str []), .d (.str []), .d (.str []), .d (.str []), .d (.str []), .d (.str []), .d (.str []), .d (.str [])], [(0, 1), (1, 1), (2, 1), (3, 1), (4, 1), (5, 1), (6, 1), (7, 1), (8, 1), (9, 1), (10, 1)]) := by kernel_rfl
@[go_sem] theorem ty_710 : zI Tryd.prog 138 = some [.d (.str []), .d (.str []), .d (.str []), .d (.str []), .d (.str []), .d (.str []), .d (.str []), .d (.str []), .d (.str []), .d (.str []), .d (.str [])] := by kernel_rfl
@[go_sem] theorem ty_711 : isIf Tryd.prog 138 = false := by kernel_rfl
@[go_sem] theorem ty_712 : (Tryd.prog.underlying 139).isSome = true := by kernel_rfl
@[go_sem] theorem ty_713 : tyI Tryd.prog 139 = some (false, 1) := by kernel_rfl
@[go_sem] theorem ty_714 : zI Tryd.prog 139 = some [.nilf] := by kernel_rfl
@[go_sem] theorem ty_715 : isIf Tryd.prog 139 = false := by kernel_rfl
@[go_sem] theorem ty_716 : (Tryd.prog.underlying 140).isSome = true := by kernel_rfl
@[go_sem] theorem ty_717 : tyI Tryd.prog 140 = some (false, 1) := by kernel_rfl
@[go_sem] theorem ty_718 : zI Tryd.prog 140 = some [.nilf] := by kernel_rfl
@[go_sem] theorem ty_719 : isIf Tryd.prog 140 = false := by kernel_rfl
@[go_sem] theorem ty_720 : (Tryd.prog.underlying 141).isSome = true := by kernel_rfl
@[go_sem] theorem ty_721 : tyI Tryd.prog 141 = some (false, 1) := by kernel_rfl
@[go_sem] theorem ty_722 : zI Tryd.prog 141 = some [.nilf] := by kernel_rfl
@[go_sem] theorem ty_723 : isIf Tryd.prog 141 = false := by kernel_rfl
@[go_sem] theorem ty_724 : (Tryd.prog.underlying 142).isSome = true := by kernel_rfl
@[go_sem] theorem ty_725 : tyI Tryd.prog 142 = some (false, 1) := by kernel_rfl
@[go_sem] theorem ty_726 : zI Tryd.prog 142 = some [.nilf] := by kernel_rfl
@[go_sem] theorem ty_727 : isIf Tryd.prog 142 = false := by kernel_rfl
@[go_sem] theorem ty_728 : (Tryd.prog.underlying 143).isSome = true := by kernel_rfl
@[go_sem] theorem ty_729 : tyI Tryd.prog 143 = some (false, 1) := by kernel_rfl
@[go_sem] theorem ty_730 : isIf Tryd.prog 143 = false := by kernel_rfl
@[go_sem] theorem ty_731 : (Tryd.prog.underlying 144).isSome = true := by kernel_rfl
@[go_sem] theorem ty_732 : tyI Tryd.prog 144 = some (false, 1) := by kernel_rfl
@[go_sem] theorem ty_733 : zI Tryd.prog 144 = some [.nilf] := by kernel_rfl
@[go_sem] theorem ty_734 : isIf Tryd.prog 144 = false := by kernel_rfl
@[go_sem] theorem ty_735 : (Tryd.prog.underlying 145).isSome = true := by kernel_rfl
@[go_sem] theorem ty_736 : tyI Tryd.prog 145 = some (false, 1) := by kernel_rfl
@[go_sem] theorem ty_737 : isIf Tryd.prog 145 = false := by kernel_rfl
@[go_sem] theorem ty_738 : (Tryd.prog.underlying 146).isSome = true := by kernel_rfl
@[go_sem] theorem ty_739 : tyI Tryd.prog 146 = some (false, 1) := by kernel_rfl
@[go_sem] theorem ty_740 : zI Tryd.prog 146 = some [.nilf] := by kernel_rfl
@[go_sem] theorem ty_741 : isIf Tryd.prog 146 = false := by kernel_rfl
@[go_sem] theorem ty_742 : (Tryd.prog.underlying 147).isSome = true := by kernel_rfl
@[go_sem] theorem ty_743 : tyI Tryd.prog 147 = some (false, 1) := by kernel_rfl
@[go_sem] theorem ty_744 : zI Tryd.prog 147 = some [.nilf] := by kernel_rfl
@[go_sem] theorem ty_745 : isIf Tryd.prog 147 = false := by kernel_rfl
@[go_sem] theorem ty_746 : (Tryd.prog.underlying 148).isSome = true := by kernel_rfl
@[go_sem] theorem ty_747 : tyI Tryd.prog 148 = some (false, 1) := by kernel_rfl
@[go_sem] theorem ty_748 : zI Tryd.prog 148 = some [.nilf] := by kernel_rfl
@[go_sem] theorem ty_749 : isIf Tryd.prog 148 = false := by kernel_rfl
@[go_sem] theorem ty_750 : (Tryd.prog.underlying 149).isSome = true := by kernel_rfl
@[go_sem] theorem ty_751 : tyI Tryd.prog 149 = some (false, 1) := by kernel_rfl
@[go_sem] theorem ty_752 : zI Tryd.prog 149 = some [.nilf] := by kernel_rfl
@[go_sem] theorem ty_753 : isIf Tryd.prog 149 = false := by kernel_rfl
@[go_sem] theorem ty_754 : (Tryd.prog.underlying 150).isSome = true := by kernel_rfl
@[go_sem] theorem ty_755 : tyI Tryd.prog 150 = some (false, 1) := by kernel_rfl
@[go_sem] theorem ty_756 : zI Tryd.prog 150 = some [.nilf] := by kernel_rfl
@[go_sem] theorem ty_757 : isIf Tryd.prog 150 = false := by kernel_rfl
@[go_sem] theorem ty_758 : (Tryd.prog.underlying 151).isSome = true := by kernel_rfl
@[go_sem] theorem ty_759 : tyI Tryd.prog 151 = some (false, 1) := by kernel_rfl
@[go_sem] theorem ty_760 : zI Tryd.prog 151 = some [.nilf] := by kernel_rfl
@[go_sem] theorem ty_761 : isIf Tryd.prog 151 = false := by kernel_rfl
@[go_sem] theorem ty_762 : (Tryd.prog.underlying 152).isSome = true := by kernel_rfl
@[go_sem] theorem ty_763 : tyI Tryd.prog 152 = some (false, 1) := by kernel_rfl
@[go_sem] theorem ty_764 : zI Tryd.prog 152 = some [.nilp] := by kernel_rfl
@[go_sem] theorem ty_765 : isIf Tryd.prog 152 = false := by kernel_rfl
@[go_sem] theorem ty_766 : (Tryd.prog.underlying 153).isSome = true := by kernel_rfl
@[go_sem] theorem ty_767 : tyI Tryd.prog 153 = some (true, 1) := by kernel_rfl
@[go_sem] theorem ty_768 : fdI Tryd.prog 153 0 = some (0, 1, false) := by kernel_rfl
@[go_sem] theorem ty_769 : bdI Tryd.prog 153 = some ([.nils], [(0, 1)]) := by kernel_rfl
@[go_sem] theorem ty_770 : zI Tryd.prog 153 = some [.nils] := by kernel_rfl
@[go_sem] theorem ty_771 : isIf Tryd.prog 153 = false := by kernel_rfl
@[go_sem] theorem ty_772 : (Tryd.prog.underlying 154).isSome = true := by kernel_rfl
@[go_sem] theorem ty_773 : tyI Tryd.prog 154 = some (true, 1) := by kernel_rfl
@[go_sem] theorem ty_774 : fdI Tryd.prog 154 0 = some (0, 1, false) := by kernel_rfl
@[go_sem] theorem ty_775 : bdI Tryd.prog 154 = some ([.nils], [(0, 1)]) := by kernel_rfl
@[go_sem] theorem ty_776 : zI Tryd.prog 154 = some [.nils] := by kernel_rfl
@[go_sem] theorem ty_777 : isIf Tryd.prog 154 = false := by kernel_rfl
@[go_sem] theorem ty_778 : (Tryd.prog.underlying 155).isSome = true := by kernel_rfl
@[go_sem] theorem ty_779 : tyI Tryd.prog 155 = some (false, 1) := by kernel_rfl
@[go_sem] theorem ty_780 : zI Tryd.prog 155 = some [.nilf] := by kernel_rfl
@[go_sem] theorem ty_781 : isIf Tryd.prog 155 = false := by kernel_rfl
@[go_sem] theorem ty_782 : (Tryd.prog.underlying 156).isSome = true := by kernel_rfl
@[go_sem] theorem ty_783 : tyI Tryd.prog 156 = some (false, 1) := by kernel_rfl
@[go_sem] theorem ty_784 : zI Tryd.prog 156 = some [.nilf] := by kernel_rfl
@[go_sem] theorem ty_785 : isIf Tryd.prog 156 = false := by kernel_rfl
@[go_sem] theorem ty_786 : (Tryd.prog.underlying 157).isSome = true := by kernel_rfl
@[go_sem] theorem ty_787 : tyI Tryd.prog 157 = some (false, 1) := by kernel_rfl
@[go_sem] theorem ty_788 : zI Tryd.prog 157 = some [.nilf] := by kernel_rfl
@[go_sem] theorem ty_789 : isIf Tryd.prog 157 = false := by kernel_rfl
@[go_sem] theorem ty_790 : (Tryd.prog.underlying 158).isSome = true := by kernel_rfl
@[go_sem] theorem ty_791 : tyI Tryd.prog 158 = some (false, 1) := by kernel_rfl
@[go_sem] theorem ty_792 : zI Tryd.prog 158 = some [.nilf] := by kernel_rfl
@[go_sem] theorem ty_793 : isIf Tryd.prog 158 = false := by kernel_rfl
@[go_sem] theorem ty_794 : (Tryd.prog.underlying 159).isSome = true := by kernel_rfl
@[go_sem] theorem ty_795 : tyI Tryd.prog 159 = some (false, 1) := by kernel_rfl
@[go_sem] theorem ty_796 : zI Tryd.prog 159 = some [.nilf] := by kernel_rfl
@[go_sem] theorem ty_797 : isIf Tryd.prog 159 = false := by kernel_rfl
@[go_sem] theorem ty_798 : (Tryd.prog.underlying 160).isSome = true := by kernel_rfl
@[go_sem] theorem ty_799 : tyI Tryd.prog 160 = some (false, 1) := by kernel_rfl
@[go_sem] theorem ty_800 : zI Tryd.prog 160 = some [.nilf] := by kernel_rfl
@[go_sem] theorem ty_801 : isIf Tryd.prog 160 = false := by kernel_rfl
@[go_sem] theorem ty_802 : (Tryd.prog.underlying 161).isSome = true := by kernel_rfl
@[go_sem] theorem ty_803 : tyI Tryd.prog 161 = some (false, 1) := by kernel_rfl
@[go_sem] theorem ty_804 : zI Tryd.prog 161 = some [.nilf] := by kernel_rfl
@[go_sem] theorem ty_805 : isIf Tryd.prog 161 = false := by kernel_rfl
@[go_sem] theorem ty_806 : (Tryd.prog.underlying 162).isSome = true := by kernel_rfl
@[go_sem] theorem ty_807 : tyI Tryd.prog 162 = some (false, 1) := by kernel_rfl
@[go_sem] theorem ty_808 : isIf Tryd.prog 162 = false := by kernel_rfl
@[go_sem] theorem ty_809 : (Tryd.prog.underlying 163).isSome = true := by kernel_rfl
@[go_sem] theorem ty_810 : tyI Tryd.prog 163 = some (false, 1) := by kernel_rfl
@[go_sem] theorem ty_811 : zI Tryd.prog 163 = some [.nilf] := by kernel_rfl
@[go_sem] theorem ty_812 : isIf Tryd.prog 163 = false := by kernel_rfl
@[go_sem] theorem ty_813 : (Tryd.prog.underlying 164).isSome = true := by kernel_rfl
@[go_sem] theorem ty_814 : tyI Tryd.prog 164 = some (false, 1) := by kernel_rfl
@[go_sem] theorem ty_815 : isIf Tryd.prog 164 = false := by kernel_rfl
@[go_sem] theorem ty_816 : (Tryd.prog.underlying 165).isSome = true := by kernel_rfl
@[go_sem] theorem ty_817 : tyI Tryd.prog 165 = some (false, 1) := by kernel_rfl
@[go_sem] theorem ty_818 : zI Tryd.prog 165 = some [.nilf] := by kernel_rfl
@[go_sem] theorem ty_819 : isIf Tryd.prog 165 = false := by kernel_rfl
@[go_sem] theorem ty_820 : (Tryd.prog.underlying 166).isSome = true := by kernel_rfl
@[go_sem] theorem ty_821 : tyI Tryd.prog 166 = some (false, 1) := by kernel_rfl
@[go_sem] theorem ty_822 : zI Tryd.prog 166 = some [.nilf] := by kernel_rfl
@[go_sem] theorem ty_823 : isIf Tryd.prog 166 = false := by kernel_rfl
@[go_sem] theorem ty_824 : (Tryd.prog.underlying 167).isSome = true := by kernel_rfl
@[go_sem] theorem ty_825 : tyI Tryd.prog 167 = some (false, 1) := by kernel_rfl
@[go_sem] theorem ty_826 : zI Tryd.prog 167 = some [.nilf] := by kernel_rfl
@[go_sem] theorem ty_827 : isIf Tryd.prog 167 = false := by kernel_rfl
@[go_sem] theorem ty_828 : (Tryd.prog.underlying 168).isSome = true := by kernel_rfl
@[go_sem] theorem ty_829 : tyI Tryd.prog 168 = some (false, 1) := by kernel_rfl
@[go_sem] theorem ty_830 : zI Tryd.prog 168 = some [.nilf] := by kernel_rfl
@[go_sem] theorem ty_831 : isIf Tryd.prog 168 = false := by kernel_rfl
@[go_sem] theorem ty_832 : (Tryd.prog.underlying 169).isSome = true := by kernel_rfl
@[go_sem] theorem ty_833 : tyI Tryd.prog 169 = some (false, 1) := by kernel_rfl
@[go_sem] theorem ty_834 : zI Tryd.prog 169 = some [.nilf] := by kernel_rfl
@[go_sem] theorem ty_835 : isIf Tryd.prog 169 = false := by kernel_rfl
@[go_sem] theorem ty_836 : (Tryd.prog.underlying 170).isSome = true := by kernel_rfl
@[go_sem] theorem ty_837 : tyI Tryd.prog 170 = some (false, 1) := by kernel_rfl
@[go_sem] theorem ty_838 : zI Tryd.prog 170 = some [.nilf] := by kernel_rfl
@[go_sem] theorem ty_839 : isIf Tryd.prog 170 = false := by kernel_rfl
@[go_sem] theorem ty_840 : (Tryd.prog.underlying 171).isSome = true := by kernel_rfl
@[go_sem] theorem ty_841 : tyI Tryd.prog 171 = some (false, 1) := by kernel_rfl
@[go_sem] theorem ty_842 : zI Tryd.prog 171 = some [.nilf] := by kernel_rfl
@[go_sem] theorem ty_843 : isIf Tryd.prog 171 = false := by kernel_rfl
@[go_sem] theorem ty_844 : (Tryd.prog.underlying 172).isSome = true := by kernel_rfl
@[go_sem] theorem ty_845 : tyI Tryd.prog 172 = some (false, 1) := by kernel_rfl
@[go_sem] theorem ty_846 : isIf Tryd.prog 172 = false := by kernel_rfl
@[go_sem] theorem ty_847 : (Tryd.prog.underlying 173).isSome = true := by kernel_rfl
@[go_sem] theorem ty_848 : tyI Tryd.prog 173 = some (false, 1) := by kernel_rfl
@[go_sem] theorem ty_849 : zI Tryd.prog 173 = some [.nilf] := by kernel_rfl
@[go_sem] theorem ty_850 : isIf Tryd.prog 173 = false := by kernel_rfl
@[go_sem] theorem ty_851 : (Tryd.prog.underlying 174).isSome = true := by kernel_rfl
@[go_sem] theorem ty_852 : tyI Tryd.prog 174 = some (false, 1) := by kernel_rfl
@[go_sem] theorem ty_853 : isIf Tryd.prog 174 = false := by kernel_rfl
@[go_sem] theorem ty_854 : (Tryd.prog.underlying 175).isSome = true := by kernel_rfl
@[go_sem] theorem ty_855 : tyI Tryd.prog 175 = some (false, 1) := by kernel_rfl
@[go_sem] theorem ty_856 : zI Tryd.prog 175 = some [.nilf] := by kernel_rfl
@[go_sem] theorem ty_857 : isIf Tryd.prog 175 = false := by kernel_rfl
@[go_sem] theorem ty_858 : (Tryd.prog.underlying 176).isSome = true := by kernel_rfl
@[go_sem] theorem ty_859 : tyI Tryd.prog 176 = some (false, 1) := by kernel_rfl
@[go_sem] theorem ty_860 : zI Tryd.prog 176 = some [.nilf] := by kernel_rfl
@[go_sem] theorem ty_861 : isIf Tryd.prog 176 = false := by kernel_rfl
@[go_sem] theorem ty_862 : (Tryd.prog.underlying 177).isSome = true := by kernel_rfl
@[go_sem] theorem ty_863 : tyI Tryd.prog 177 = some (false, 1) := by kernel_rfl
@[go_sem] theorem ty_864 : isIf Tryd.prog 177 = false := by kernel_rfl
@[go_sem] theorem ty_865 : (Tryd.prog.underlying 178).isSome = true := by kernel_rfl
@[go_sem] theorem ty_866 : tyI Tryd.prog 178 = some (false, 1) := by kernel_rfl
@[go_sem] theorem ty_867 : zI Tryd.prog 178 = some [.nilf] := by kernel_rfl
@[go_sem] theorem ty_868 : isIf Tryd.prog 178 = false := by kernel_rfl
@[go_sem] theorem ty_869 : (Tryd.prog.underlying 179).isSome = true := by kernel_rfl
@[go_sem] theorem ty_870 : tyI Tryd.prog 179 = some (false, 1) := by kernel_rfl
@[go_sem] theorem ty_871 : zI Tryd.prog 179 = some [.nilp] := by kernel_rfl
@[go_sem] theorem ty_872 : isIf Tryd.prog 179 = false := by kernel_rfl
@[go_sem] theorem ty_873 : (Tryd.prog.underlying 180).isSome = true := by kernel_rfl
@[go_sem] theorem ty_874 : tyI Tryd.prog 180 = some (false, 1) := by kernel_rfl
@[go_sem] theorem ty_875 : zI Tryd.prog 180 = some [.nilf] := by kernel_rfl
@[go_sem] theorem ty_876 : isIf Tryd.prog 180 = false := by kernel_rfl
@[go_sem] theorem ty_877 : (Tryd.prog.underlying 181).isSome = true := by kernel_rfl
@[go_sem] theorem ty_878 : tyI Tryd.prog 181 = some (false, 1) := by kernel_rfl
@[go_sem] theorem ty_879 : zI Tryd.prog 181 = some [.nilf] := by kernel_rfl
@[go_sem] theorem ty_880 : isIf Tryd.prog 181 = false := by kernel_rfl
@[go_sem] theorem ty_881 : (Tryd.prog.underlying 182).isSome = true := by kernel_rfl
@[go_sem] theorem ty_882 : tyI Tryd.prog 182 = some (false, 1) := by kernel_rfl
@[go_sem] theorem ty_883 : zI Tryd.prog 182 = some [.nilf] := by kernel_rfl
@[go_sem] theorem ty_884 : isIf Tryd.prog 182 = false := by kernel_rfl
@[go_sem] theorem ty_885 : (Tryd.prog.underlying 183).isSome = true := by kernel_rfl
@[go_sem] theorem ty_886 : tyI Tryd.prog 183 = some (false, 1) := by kernel_rfl
@[go_sem] theorem ty_887 : zI Tryd.prog 183 = some [.nilf] := by kernel_rfl
@[go_sem] theorem ty_888 : isIf Tryd.prog 183 = false := by kernel_rfl
@[go_sem] theorem ty_889 : (Tryd.prog.underlying 184).isSome = true := by kernel_rfl
@[go_sem] theorem ty_890 : tyI Tryd.prog 184 = some (false, 1) := by kernel_rfl
@[go_sem] theorem ty_891 : zI Tryd.prog 184 = some [.nilf] := by kernel_rfl
@[go_sem] theorem ty_892 : isIf Tryd.prog 184 = false := by kernel_rfl
@[go_sem] theorem ty_893 : (Tryd.prog.underlying 185).isSome = true := by kernel_rfl
@[go_sem] theorem ty_894 : tyI Tryd.prog 185 = some (false, 1) := by kernel_rfl
@[go_sem] theorem ty_895 : isIf Tryd.prog 185 = false := by kernel_rfl
@[go_sem] theorem ty_896 : (Tryd.prog.underlying 186).isSome = true := by kernel_rfl
@[go_sem] theorem ty_897 : tyI Tryd.prog 186 = some (false, 1) := by kernel_rfl
@[go_sem] theorem ty_898 : zI Tryd.prog 186 = some [.nilf] := by kernel_rfl
@[go_sem] theorem ty_899 : isIf Tryd.prog 186 = false := by kernel_rfl
@[go_sem] theorem ty_900 : (Tryd.prog.underlying 187).isSome = true := by kernel_rfl
@[go_sem] theorem ty_901 : tyI Tryd.prog 187 = some (false, 1) := by kernel_rfl
@[go_sem] theorem ty_902 : isIf Tryd.prog 187 = false := by kernel_rfl
@[go_sem] theorem ty_903 : (Tryd.prog.underlying 188).isSome = true := by kernel_rfl
@[go_sem] theorem ty_904 : tyI Tryd.prog 188 = some (false, 1) := by kernel_rfl
@[go_sem] theorem ty_905 : zI Tryd.prog 188 = some [.nilf] := by kernel_rfl
@[go_sem] theorem ty_906 : isIf Tryd.prog 188 = false := by kernel_rfl
@[go_sem] theorem ty_907 : (Tryd.prog.underlying 189).isSome = true := by kernel_rfl
@[go_sem] theorem ty_908 : tyI Tryd.prog 189 = some (false, 1) := by kernel_rfl
@[go_sem] theorem ty_909 : zI Tryd.prog 189 = some [.nilf] := by kernel_rfl
@[go_sem] theorem ty_910 : isIf Tryd.prog 189 = false := by kernel_rfl
@[go_sem] theorem ty_911 : (Tryd.prog.underlying 190).isSome = true := by kernel_rfl
@[go_sem] theorem ty_912 : tyI Tryd.prog 190 = some (false, 1) := by kernel_rfl
@[go_sem] theorem ty_913 : zI Tryd.prog 190 = some [.nilf] := by kernel_rfl
@[go_sem] theorem ty_914 : isIf Tryd.prog 190 = false := by kernel_rfl
@[go_sem] theorem ty_915 : (Tryd.prog.underlying 191).isSome = true := by kernel_rfl
@[go_sem] theorem ty_916 : tyI Tryd.prog 191 = some (false, 1) := by kernel_rfl
@[go_sem] theorem ty_917 : zI Tryd.prog 191 = some [.nilf] := by kernel_rfl
@[go_sem] theorem ty_918 : isIf Tryd.prog 191 = false := by kernel_rfl
@[go_sem] theorem ty_919 : (Tryd.prog.underlying 192).isSome = true := by kernel_rfl
@[go_sem] theorem ty_920 : tyI Tryd.prog 192 = some (false, 1) := by kernel_rfl
@[go_sem] theorem ty_921 : zI Tryd.prog 192 = some [.nilf] := by kernel_rfl
@[go_sem] theorem ty_922 : isIf Tryd.prog 192 = false := by kernel_rfl
@[go_sem] theorem ty_923 : (Tryd.prog.underlying 193).isSome = true := by kernel_rfl
@[go_sem] theorem ty_924 : tyI Tryd.prog 193 = some (false, 1) := by kernel_rfl
@[go_sem] theorem ty_925 : isIf Tryd.prog 193 = false := by kernel_rfl
@[go_sem] theorem ty_926 : (Tryd.prog.underlying 194).isSome = true := by kernel_rfl
@[go_sem] theorem ty_927 : tyI Tryd.prog 194 = some (false, 1) := by kernel_rfl
@[go_sem] theorem ty_928 : zI Tryd.prog 194 = some [.nilf] := by kernel_rfl
@[go_sem] theorem ty_929 : isIf Tryd.prog 194 = false := by kernel_rfl
@[go_sem] theorem ty_930 : (Tryd.prog.underlying 195).isSome = true := by kernel_rfl
@[go_sem] theorem ty_931 : tyI Tryd.prog 195 = some (false, 1) := by kernel_rfl
@[go_sem] theorem ty_932 : zI Tryd.prog 195 = some [.nilf] := by kernel_rfl
@[go_sem] theorem ty_933 : isIf Tryd.prog 195 = false := by kernel_rfl
@[go_sem] theorem ty_934 : (Tryd.prog.underlying 196).isSome = true := by kernel_rfl
@[go_sem] theorem ty_935 : tyI Tryd.prog 196 = some (false, 1) := by kernel_rfl
@[go_sem] theorem ty_936 : zI Tryd.prog 196 = some [.nilf] := by kernel_rfl
@[go_sem] theorem ty_937 : isIf Tryd.prog 196 = false := by kernel_rfl
@[go_sem] theorem ty_938 : (Tryd.prog.underlying 197).isSome = true := by kernel_rfl
@[go_sem] theorem ty_939 : tyI Tryd.prog 197 = some (false, 1) := by kernel_rfl
@[go_sem] theorem ty_940 : slI Tryd.prog 197 = some (203, 4, 24) := by kernel_rfl
@[go_sem] theorem ty_941 : zI Tryd.prog 197 = some [.nils] := by kernel_rfl
@[go_sem] theorem ty_942 : isIf Tryd.prog 197 = false := by kernel_rfl
@[go_sem] theorem ty_943 : isBytes Tryd.prog 197 = false := by kernel_rfl
@[go_sem] theorem ty_944 : isSl Tryd.prog 197 = true := by kernel_rfl
@[go_sem] theorem ty_945 : (Tryd.prog.underlying 198).isSome = true := by kernel_rfl
@[go_sem] theorem ty_946 : tyI Tryd.prog 198 = some (false, 1) := by kernel_rfl
@[go_sem] theorem ty_947 : isIf Tryd.prog 198 = false := by kernel_rfl
@[go_sem] theorem ty_948 : (Tryd.prog.underlying 199).isSome = true := by kernel_rfl
@[go_sem] theorem ty_949 : tyI Tryd.prog 199 = some (false, 1) := by kernel_rfl
@[go_sem] theorem ty_950 : zI Tryd.prog 199 = some [.nilf] := by kernel_rfl
@[go_sem] theorem ty_951 : isIf Tryd.prog 199 = false := by kernel_rfl
@[go_sem] theorem ty_952 : (Tryd.prog.underlying 200).isSome = true := by kernel_rfl
@[go_sem] theorem ty_953 : tyI Tryd.prog 200 = some (false, 1) := by kernel_rfl
@[go_sem] theorem ty_954 : isIf Tryd.prog 200 = false := by kernel_rfl
@[go_sem] theorem ty_955 : (Tryd.prog.underlying 201).isSome = true := by kernel_rfl
@[go_sem] theorem ty_956 : tyI Tryd.prog 201 = some (false, 1) := by kernel_rfl
@[go_sem] theorem ty_957 : zI Tryd.prog 201 = some [.nilf] := by kernel_rfl
@[go_sem] theorem ty_958 : isIf Tryd.prog 201 = false := by kernel_rfl
@[go_sem] theorem ty_959 : (Tryd.prog.underlying 202).isSome = true := by kernel_rfl
@[go_sem] theorem ty_960 : tyI Tryd.prog 202 = some (true, 4) := by kernel_rfl
@[go_sem] theorem ty_961 : fdI Tryd.prog 202 0 = some (0, 1, false) := by kernel_rfl
@[go_sem] theorem ty_962 : fdI Tryd.prog 202 1 = some (1, 1, false) := by kernel_rfl
@[go_sem] theorem ty_963 : fdI Tryd.prog 202 2 = some (2, 1, false) := by kernel_rfl
@[go_sem] theorem ty_964 : fdI Tryd.prog 202 3 = some (3, 1, false) := by kernel_rfl
@[go_sem] theorem ty_965 : bdI Tryd.prog 202 = some ([.d (.str []), .d (.bool false), .d (.bool false), .d (.bool false)], [(0, 1), (1, 1), (2, 1), (3, 1)]) := by kernel_rfl
@[go_sem] theorem ty_966 : zI Tryd.prog 202 = some [.d (.str []), .d (.bool false), .d (.bool false), .d (.bool false)] := by kernel_rfl
@[go_sem] theorem ty_967 : eqI Tryd.prog 202 = some [3, 2, 2, 2] := by kernel_rfl
@[go_sem] theorem ty_968 : isIf Tryd.prog 202 = false := by kernel_rfl
@[go_sem] theorem ty_969 : (Tryd.prog.underlying 203).isSome = true := by kernel_rfl
@[go_sem] theorem ty_970 : tyI Tryd.prog 203 = some (true, 4) := by kernel_rfl
@[go_sem] theorem ty_971 : fdI Tryd.prog 203 0 = some (0, 1, false) := by kernel_rfl
@[go_sem] theorem ty_972 : fdI Tryd.prog 203 1 = some (1, 1, false) := by kernel_rfl
@[go_sem] theorem ty_973 : fdI Tryd.prog 203 2 = some (2, 1, false) := by kernel_rfl
@[go_sem] theorem ty_974 : fdI Tryd.prog 203 3 = some (3, 1, false) := by kernel_rfl
@[go_sem] theorem ty_975 : bdI Tryd.prog 203 = some ([.d (.str []), .d (.bool false), .d (.bool false), .d (.bool false)], [(0, 1), (1, 1), (2, 1), (3, 1)]) := by kernel_rfl
@[go_sem] theorem ty_976 : zI Tryd.prog 203 = some [.d (.str []), .d (.bool false), .d (.bool false), .d (.bool false)] := by kernel_rfl
@[go_sem] theorem ty_977 : eqI Tryd.prog 203 = some [3, 2, 2, 2] := by kernel_rfl
@[go_sem] theorem ty_978 : isIf Tryd.prog 203 = false := by kernel_rfl
@[go_sem] theorem ty_979 : (Tryd.prog.underlying 204).isSome = true := by kernel_rfl
@[go_sem] theorem ty_980 : tyI Tryd.prog 204 = some (false, 1) := by kernel_rfl
@[go_sem] theorem ty_981 : zI Tryd.prog 204 = some [.nilf] := by kernel_rfl
@[go_sem] theorem ty_982 : isIf Tryd.prog 204 = false := by kernel_rfl
@[go_sem] theorem ty_983 : (Tryd.prog.underlying 205).isSome = true := by kernel_rfl
@[go_sem] theorem ty_984 : tyI Tryd.prog 205 = some (false, 1) := by kernel_rfl
@[go_sem] theorem ty_985 : slI Tryd.prog 205 = some (209, 3, 3) := by kernel_rfl
@[go_sem] theorem ty_986 : zI Tryd.prog 205 = some [.nils] := by kernel_rfl
@[go_sem] theorem ty_987 : isIf Tryd.prog 205 = false := by kernel_rfl
@[go_sem] theorem ty_988 : isBytes Tryd.prog 205 = false := by kernel_rfl
@[go_sem] theorem ty_989 : isSl Tryd.prog 205 = true := by kernel_rfl
@[go_sem] theorem ty_990 : (Tryd.prog.underlying 206).isSome = true := by kernel_rfl
@[go_sem] theorem ty_991 : tyI Tryd.prog 206 = some (false, 1) := by kernel_rfl
@[go_sem] theorem ty_992 : zI Tryd.prog 206 = some [.nilf] := by kernel_rfl
@[go_sem] theorem ty_993 : isIf Tryd.prog 206 = false := by kernel_rfl
@[go_sem] theorem ty_994 : (Tryd.prog.underlying 207).isSome = true := by kernel_rfl
@[go_sem] theorem ty_995 : tyI Tryd.prog 207 = some (false, 1) := by kernel_rfl
@[go_sem] theorem ty_996 : zI Tryd.prog 207 = some [.nilf] := by kernel_rfl
@[go_sem] theorem ty_997 : isIf Tryd.prog 207 = false := by kernel_rfl
@[go_sem] theorem ty_998 : (Tryd.prog.underlying 208).isSome = true := by kernel_rfl
@[go_sem] theorem ty_999 : tyI Tryd.prog 208 = some (true, 3) := by kernel_rfl
@[go_sem] theorem ty_1000 : fdI Tryd.prog 208 0 = some (0, 1, false) := by kernel_rfl
@[go_sem] theorem ty_1001 : fdI Tryd.prog 208 1 = some (1, 1, false) := by kernel_rfl
@[go_sem] theorem ty_1002 : fdI Tryd.prog 208 2 = some (2, 1, false) := by kernel_rfl
@[go_sem] theorem ty_1003 : bdI Tryd.prog 208 = some ([.d (.int .u8 0), .d (.bool false), .d (.bool false)], [(0, 1), (1, 1), (2, 1)]) := by kernel_rfl
@[go_sem] theorem ty_1004 : zI Tryd.prog 208 = some [.d (.int .u8 0), .d (.bool false), .d (.bool false)] := by kernel_rfl
@[go_sem] theorem ty_1005 : eqI Tryd.prog 208 = some [1, 2, 2] := by kernel_rfl
@[go_sem] theorem ty_1006 : isIf Tryd.prog 208 = false := by kernel_rfl
@[go_sem] theorem ty_1007 : (Tryd.prog.underlying 209).isSome = true := by kernel_rfl
@[go_sem] theorem ty_1008 : tyI Tryd.prog 209 = some (true, 3) := by kernel_rfl
@[go_sem] theorem ty_1009 : fdI Tryd.prog 209 0 = some (0, 1, false) := by kernel_rfl
@[go_sem] theorem ty_1010 : fdI Tryd.prog 209 1 = some (1, 1, false) := by kernel_rfl
@[go_sem] theorem ty_1011 : fdI Tryd.prog 209 2 = some (2, 1, false) := by kernel_rfl
@[go_sem] theorem ty_1012 : bdI Tryd.prog 209 = some ([.d (.int .u8 0), .d (.bool false), .d (.bool false)], [(0, 1), (1, 1), (2, 1)]) := by kernel_rfl
@[go_sem] theorem ty_1013 : zI Tryd.prog 209 = some [.d (.int .u8 0), .d (.bool false), .d (.bool false)] := by kernel_rfl
@[go_sem] theorem ty_1014 : eqI Tryd.prog 209 = some [1, 2, 2] := by kernel_rfl
@[go_sem] theorem ty_1015 : isIf Tryd.prog 209 = false := by kernel_rfl
@[go_sem] theorem ty_1016 : (Tryd.prog.underlying 210).isSome = true := by kernel_rfl
@[go_sem] theorem ty_1017 : tyI Tryd.prog 210 = some (false, 1) := by kernel_rfl
@[go_sem] theorem ty_1018 : zI Tryd.prog 210 = some [.nilf] := by kernel_rfl
@[go_sem] theorem ty_1019 : isIf Tryd.prog 210 = false := by kernel_rfl
@[go_sem] theorem ty_1020 : (Tryd.prog.underlying 211).isSome = true := by kernel_rfl
@[go_sem] theorem ty_1021 : tyI Tryd.prog 211 = some (false, 1) := by kernel_rfl
@[go_sem] theorem ty_1022 : zI Tryd.prog 211 = some [.nilf] := by kernel_rfl
@[go_sem] theorem ty_1023 : isIf Tryd.prog 211 = false := by kernel_rfl
@[go_sem] theorem ty_1024 : (Tryd.prog.underlying 212).isSome = true := by kernel_rfl
@[go_sem] theorem ty_1025 : tyI Tryd.prog 212 = some (false, 1) := by kernel_rfl
@[go_sem] theorem ty_1026 : zI Tryd.prog 212 = some [.nilf] := by kernel_rfl
@[go_sem] theorem ty_1027 : isIf Tryd.prog 212 = false := by kernel_rfl
@[go_sem] theorem ty_1028 : (Tryd.prog.underlying 213).isSome = true := by kernel_rfl
@[go_sem] theorem ty_1029 : tyI Tryd.prog 213 = some (true, 24) := by kernel_rfl
@[go_sem] theorem ty_1030 : arI Tryd.prog 213 = some (24, 1, false) := by kernel_rfl
@[go_sem] theorem ty_1031 : bdI Tryd.prog 213 = some ([.d (.int .u8 0), .d (.int .u8 0), .d (.int .u8 0), .d (.int .u8 0), .d (.int .u8 0), .d (.int .u8 0), .d (.int .u8 0), .d (.int .u8 0), .d (.int .u8 0), .d (.int .u8 0), .d (.int .u8 0), .d (.int .u8 0), .d (.int .u8 0), .d (.int .u8 0), .d (.int .u8 0), .d (.int .u8 0), .d (.int .u8 0), .d (.int .u8 0), .d (.int .u8 0), .d (.int .u8 0), .d (.int .u8 0), .d (.int .u8 0), .d (.int .u8 0), .d (.int .u8 0)], [(0, 1), (1, 1), (2, 1), (3, 1), (4, 1), (5, 1), (6, 1), (7, 1), (8, 1), (9, 1), (10, 1), (11, 1), (12, 1), (13, 1), (14, 1), (15, 1), (16, 1), (17, 1), (18, 1), (19, 1), (20, 1), (21, 1), (22, 1), (23, 1)]) := by kernel_rfl
@[go_sem] theorem ty_1032 : zI Tryd.prog 213 = some [.d (.int .u8 0), .d (.int .u8 0), .d (.int .u8 0), .d (.int .u8 0), .d (.int .u8 0), .d (.int .u8 0), .d (.int .u8 0), .d (.int .u8 0), .d (.int .u8 0), .d (.int .u8 0), .d (.int .u8 0), .d (.int .u8 0), .d (.int .u8 0), .d (.int .u8 0), .d (.int .u8 0), .d (.int .u8 0), .d (.int .u8 0), .d (.int .u8 0), .d (.int .u8 0), .d (.int .u8 0), .d (.int .u8 0), .d (.int .u8 0), .d (.int .u8 0), .d (.int .u8 0)] := by kernel_rfl
@[go_sem] theorem ty_1033 : isIf Tryd.prog 213 = false := by kernel_rfl
@[go_sem] theorem ty_1034 : (Tryd.prog.underlying 214).isSome = true := by kernel_rfl
@[go_sem] theorem ty_1035 : tyI Tryd.prog 214 = some (false, 1) := by kernel_rfl
@[go_sem] theorem ty_1036 : intI Tryd.prog 214 = some .u64 := by kernel_rfl
@[go_sem] theorem ty_1037 : zI Tryd.prog 214 = some [.d (.int .u64 0)] := by kernel_rfl
@[go_sem] theorem ty_1038 : isIf Tryd.prog 214 = false := by kernel_rfl
@[go_sem] theorem ty_1039 : (Tryd.prog.underlying 215).isSome = true := by kernel_rfl
@[go_sem] theorem ty_1040 : tyI Tryd.prog 215 = some (false, 1) := by kernel_rfl
@[go_sem] theorem ty_1041 : zI Tryd.prog 215 = some [.nilf] := by kernel_rfl
@[go_sem] theorem ty_1042 : isIf Tryd.prog 215 = false := by kernel_rfl
@[go_sem] theorem ty_1043 : (Tryd.prog.underlying 216).isSome = true := by kernel_rfl
@[go_sem] theorem ty_1044 : tyI Tryd.prog 216 = some (false, 1) := by kernel_rfl
@[go_sem] theorem ty_1045 : zI Tryd.prog 216 = some [.nilf] := by kernel_rfl
@[go_sem] theorem ty_1046 : isIf Tryd.prog 216 = false := by kernel_rfl
@[go_sem] theorem ty_1047 : (Tryd.prog.underlying 217).isSome = true := by kernel_rfl
@[go_sem] theorem ty_1048 : tyI Tryd.prog 217 = some (false, 1) := by kernel_rfl
@[go_sem] theorem ty_1049 : isIf Tryd.prog 217 = false := by kernel_rfl
@[go_sem] theorem ty_1050 : (Tryd.prog.underlying 218).isSome = true := by kernel_rfl
@[go_sem] theorem ty_1051 : tyI Tryd.prog 218 = some (false, 1) := by kernel_rfl
@[go_sem] theorem ty_1052 : zI Tryd.prog 218 = some [.nilf] := by kernel_rfl
@[go_sem] theorem ty_1053 : isIf Tryd.prog 218 = false := by kernel_rfl
@[go_sem] theorem ty_1054 : (Tryd.prog.underlying 219).isSome = true := by kernel_rfl
@[go_sem] theorem ty_1055 : tyI Tryd.prog 219 = some (false, 1) := by kernel_rfl
@[go_sem] theorem ty_1056 : zI Tryd.prog 219 = some [.nilf] := by kernel_rfl
@[go_sem] theorem ty_1057 : isIf Tryd.prog 219 = false := by kernel_rfl
@[go_sem] theorem ty_1058 : (Tryd.prog.underlying 220).isSome = true := by kernel_rfl
@[go_sem] theorem ty_1059 : tyI Tryd.prog 220 = some (false, 1) := by kernel_rfl
@[go_sem] theorem ty_1060 : isIf Tryd.prog 220 = false := by kernel_rfl
@[go_sem] theorem ty_1061 : (Tryd.prog.underlying 221).isSome = true := by kernel_rfl
@[go_sem] theorem ty_1062 : tyI Tryd.prog 221 = some (false, 1) := by kernel_rfl
@[go_sem] theorem ty_1063 : zI Tryd.prog 221 = some [.nilf] := by kernel_rfl
@[go_sem] theorem ty_1064 : isIf Tryd.prog 221 = false := by kernel_rfl
@[go_sem] theorem ty_1065 : (Tryd.prog.underlying 222).isSome = true := by kernel_rfl
@[go_sem] theorem ty_1066 : tyI Tryd.prog 222 = some (false, 1) := by kernel_rfl
@[go_sem] theorem ty_1067 : zI Tryd.prog 222 = some [.nilf] := by kernel_rfl
@[go_sem] theorem ty_1068 : isIf Tryd.prog 222 = false := by kernel_rfl
@[go_sem] theorem ty_1069 : (Tryd.prog.underlying 223).isSome = true := by kernel_rfl
@[go_sem] theorem ty_1070 : tyI Tryd.prog 223 = some (false, 1) := by kernel_rfl
@[go_sem] theorem ty_1071 : zI Tryd.prog 223 = some [.nilp] := by kernel_rfl
@[go_sem] theorem ty_1072 : isIf Tryd.prog 223 = false := by kernel_rfl
@[go_sem] theorem ty_1073 : (Tryd.prog.underlying 224).isSome = true := by kernel_rfl
@[go_sem] theorem ty_1074 : tyI Tryd.prog 224 = some (false, 1) := by kernel_rfl
@[go_sem] theorem ty_1075 : zI Tryd.prog 224 = some [.nilf] := by kernel_rfl
@[go_sem] theorem ty_1076 : isIf Tryd.prog 224 = false := by kernel_rfl
@[go_sem] theorem ty_1077 : (Tryd.prog.underlying 225).isSome = true := by kernel_rfl
@[go_sem] theorem ty_1078 : tyI Tryd.prog 225 = some (false, 1) := by kernel_rfl
@[go_sem] theorem ty_1079 : zI Tryd.prog 225 = some [.nilf] := by kernel_rfl
@[go_sem] theorem ty_1080 : isIf Tryd.prog 225 = false := by kernel_rfl
@[go_sem] theorem ty_1081 : (Tryd.prog.underlying 226).isSome = true := by kernel_rfl
@[go_sem] theorem ty_1082 : tyI Tryd.prog 226 = some (false, 1) := by kernel_rfl
@[go_sem] theorem ty_1083 : zI Tryd.prog 226 = some [.nilf] := by kernel_rfl
@[go_sem] theorem ty_1084 : isIf Tryd.prog 226 = false := by kernel_rfl
@[go_sem] theorem ty_1085 : (Tryd.prog.underlying 227).isSome = true := by kernel_rfl
@[go_sem] theorem ty_1086 : tyI Tryd.prog 227 = some (false, 1) := by kernel_rfl
@[go_sem] theorem ty_1087 : zI Tryd.prog 227 = some [.nilf] := by kernel_rfl
@[go_sem] theorem ty_1088 : isIf Tryd.prog 227 = false := by kernel_rfl
@[go_sem] theorem ty_1089 : (Tryd.prog.underlying 228).isSome = true := by kernel_rfl
@[go_sem] theorem ty_1090 : tyI Tryd.prog 228 = some (false, 1) := by kernel_rfl
@[go_sem] theorem ty_1091 : zI Tryd.prog 228 = some [.nilf] := by kernel_rfl
@[go_sem] theorem ty_1092 : isIf Tryd.prog 228 = false := by kernel_rfl
@[go_sem] theorem ty_1093 : (Tryd.prog.underlying 229).isSome = true := by kernel_rfl
@[go_sem] theorem ty_1094 : tyI Tryd.prog 229 = some (false, 1) := by kernel_rfl
@[go_sem] theorem ty_1095 : zI Tryd.prog 229 = some [.nilf] := by kernel_rfl
@[go_sem] theorem ty_1096 : isIf Tryd.prog 229 = false := by kernel_rfl
@[go_sem] theorem ty_1097 : (Tryd.prog.underlying 230).isSome = true := by kernel_rfl
@[go_sem] theorem ty_1098 : tyI Tryd.prog 230 = some (true, 2) := by kernel_rfl
@[go_sem] theorem ty_1099 : arI Tryd.prog 230 = some (2, 1, false) := by kernel_rfl
@[go_sem] theorem ty_1100 : bdI Tryd.prog 230 = some ([.nils, .nils], [(0, 1), (1, 1)]) := by kernel_rfl
@[go_sem] theorem ty_1101 : zI Tryd.prog 230 = some [.nils, .nils] := by kernel_rfl
@[go_sem] theorem ty_1102 : isIf Tryd.prog 230 = false := by kernel_rfl
@[go_sem] theorem ty_1103 : (Tryd.prog.underlying 231).isSome = true := by kernel_rfl
@[go_sem] theorem ty_1104 : tyI Tryd.prog 231 = some (false, 1) := by kernel_rfl
@[go_sem] theorem ty_1105 : isIf Tryd.prog 231 = false := by kernel_rfl
@[go_sem] theorem ty_1106 : (Tryd.prog.underlying 232).isSome = true := by kernel_rfl
@[go_sem] theorem ty_1107 : tyI Tryd.prog 232 = some (true, 5) := by kernel_rfl
@[go_sem] theorem ty_1108 : arI Tryd.prog 232 = some (5, 1, false) := by kernel_rfl
@[go_sem] theorem ty_1109 : bdI Tryd.prog 232 = some ([.d (.str []), .d (.str []), .d (.str []), .d (.str []), .d (.str [])], [(0, 1), (1, 1), (2, 1), (3, 1), (4, 1)]) := by kernel_rfl
@[go_sem] theorem ty_1110 : zI Tryd.prog 232 = some [.d (.str []), .d (.str []), .d (.str []), .d (.str []), .d (.str [])] := by kernel_rfl
@[go_sem] theorem ty_1111 : isIf Tryd.prog 232 = false := by kernel_rfl
@[go_sem] theorem ty_1112 : (Tryd.prog.underlying 233).isSome = true := by kernel_rfl
@[go_sem] theorem ty_1113 : tyI Tryd.prog 233 = some (false, 1) := by kernel_rfl
@[go_sem] theorem ty_1114 : zI Tryd.prog 233 = some [.nilp] := by kernel_rfl
@[go_sem] theorem ty_1115 : isIf Tryd.prog 233 = false := by kernel_rfl
@[go_sem] theorem ty_1116 : (Tryd.prog.underlying 234).isSome = true := by kernel_rfl
@[go_sem] theorem ty_1117 : tyI Tryd.prog 234 = some (true, 2) := by kernel_rfl
@[go_sem] theorem ty_1118 : fdI Tryd.prog 234 0 = some (0, 1, false) := by kernel_rfl
@[go_sem] theorem ty_1119 : fdI Tryd.prog 234 1 = some (1, 1, false) := by kernel_rfl
@[go_sem] theorem ty_1120 : bdI Tryd.prog 234 = some ([.d (.str []), .d (.int .i64 0)], [(0, 1), (1, 1)]) := by kernel_rfl
@[go_sem] theorem ty_1121 : zI Tryd.prog 234 = some [.d (.str []), .d (.int .i64 0)] := by kernel_rfl
@[go_sem] theorem ty_1122 : eqI Tryd.prog 234 = some [3, 1] := by kernel_rfl
@[go_sem] theorem ty_1123 : isIf Tryd.prog 234 = false := by kernel_rfl
@[go_sem] theorem ty_1124 : (Tryd.prog.underlying 235).isSome = true := by kernel_rfl
@[go_sem] theorem ty_1125 : tyI Tryd.prog 235 = some (true, 2) := by kernel_rfl
@[go_sem] theorem ty_1126 : fdI Tryd.prog 235 0 = some (0, 1, false) := by kernel_rfl
@[go_sem] theorem ty_1127 : fdI Tryd.prog 235 1 = some (1, 1, false) := by kernel_rfl
@[go_sem] theorem ty_1128 : bdI Tryd.prog 235 = some ([.d (.str []), .d (.int .i64 0)], [(0, 1), (1, 1)]) := by kernel_rfl
@[go_sem] theorem ty_1129 : zI Tryd.prog 235 = some [.d (.str []), .d (.int .i64 0)] := by kernel_rfl
@[go_sem] theorem ty_1130 : eqI Tryd.prog 235 = some [3, 1] := by kernel_rfl
@[go_sem] theorem ty_1131 : isIf Tryd.prog 235 = false := by kernel_rfl
@[go_sem] theorem ty_1132 : (Tryd.prog.underlying 236).isSome = true := by kernel_rfl
@[go_sem] theorem ty_1133 : tyI Tryd.prog 236 = some (false, 1) := by kernel_rfl
@[go_sem] theorem ty_1134 : zI Tryd.prog 236 = some [.nilf] := by kernel_rfl
@[go_sem] theorem ty_1135 : isIf Tryd.prog 236 = false := by kernel_rfl
@[go_sem] theorem ty_1136 : (Tryd.prog.underlying 237).isSome = true := by kernel_rfl
@[go_sem] theorem ty_1137 : tyI Tryd.prog 237 = some (false, 1) := by kernel_rfl
@[go_sem] theorem ty_1138 : zI Tryd.prog 237 = some [.nilf] := by kernel_rfl
@[go_sem] theorem ty_1139 : isIf Tryd.prog 237 = false := by kernel_rfl
@[go_sem] theorem ty_1140 : (Tryd.prog.underlying 238).isSome = true := by kernel_rfl
@[go_sem] theorem ty_1141 : tyI Tryd.prog 238 = some (false, 1) := by kernel_rfl
@[go_sem] theorem ty_1142 : zI Tryd.prog 238 = some [.nilf] := by kernel_rfl
@[go_sem] theorem ty_1143 : isIf Tryd.prog 238 = false := by kernel_rfl
@[go_sem] theorem ty_1144 : (Tryd.prog.underlying 239).isSome = true := by kernel_rfl
@[go_sem] theorem ty_1145 : tyI Tryd.prog 239 = some (false, 1) := by kernel_rfl
@[go_sem] theorem ty_1146 : zI Tryd.prog 239 = some [.nilf] := by kernel_rfl
@[go_sem] theorem ty_1147 : isIf Tryd.prog 239 = false := by kernel_rfl
@[go_sem] theorem ty_1148 : (Tryd.prog.underlying 240).isSome = true := by kernel_rfl
@[go_sem] theorem ty_1149 : tyI Tryd.prog 240 = some (false, 1) := by kernel_rfl
@[go_sem] theorem ty_1150 : zI Tryd.prog 240 = some [.nilf] := by kernel_rfl
@[go_sem] theorem ty_1151 : isIf Tryd.prog 240 = false := by kernel_rfl
@[go_sem] theorem ty_1152 : (Tryd.prog.underlying 241).isSome = true := by kernel_rfl
@[go_sem] theorem ty_1153 : tyI Tryd.prog 241 = some (false, 1) := by kernel_rfl
@[go_sem] theorem ty_1154 : zI Tryd.prog 241 = some [.nilf] := by kernel_rfl
@[go_sem] theorem ty_1155 : isIf Tryd.prog 241 = false := by kernel_rfl
@[go_sem] theorem ty_1156 : (Tryd.prog.underlying 242).isSome = true := by kernel_rfl
@[go_sem] theorem ty_1157 : tyI Tryd.prog 242 = some (false, 1) := by kernel_rfl
@[go_sem] theorem ty_1158 : zI Tryd.prog 242 = some [.nilf] := by kernel_rfl
@[go_sem] theorem ty_1159 : isIf Tryd.prog 242 = false := by kernel_rfl
@[go_sem] theorem ty_1160 : (Tryd.prog.underlying 243).isSome = true := by kernel_rfl
@[go_sem] theorem ty_1161 : tyI Tryd.prog 243 = some (false, 1) := by kernel_rfl
@[go_sem] theorem ty_1162 : intI Tryd.prog 243 = some .u64 := by kernel_rfl
@[go_sem] theorem ty_1163 : zI Tryd.prog 243 = some [.d (.int .u64 0)] := by kernel_rfl
@[go_sem] theorem ty_1164 : isIf Tryd.prog 243 = false := by kernel_rfl
@[go_sem] theorem ty_1165 : (Tryd.prog.underlying 244).isSome = true := by kernel_rfl
@[go_sem] theorem ty_1166 : tyI Tryd.prog 244 = some (false, 1) := by kernel_rfl
@[go_sem] theorem ty_1167 : zI Tryd.prog 244 = some [.nilf] := by kernel_rfl
@[go_sem] theorem ty_1168 : isIf Tryd.prog 244 = false := by kernel_rfl
@[go_sem] theorem ty_1169 : (Tryd.prog.underlying 245).isSome = true := by kernel_rfl
@[go_sem] theorem ty_1170 : tyI Tryd.prog 245 = some (false, 1) := by kernel_rfl
@[go_sem] theorem ty_1171 : zI Tryd.prog 245 = some [.nilf] := by kernel_rfl
@[go_sem] theorem ty_1172 : isIf Tryd.prog 245 = false := by kernel_rfl
@[go_sem] theorem ty_1173 : (Tryd.prog.underlying 246).isSome = true := by kernel_rfl
@[go_sem] theorem ty_1174 : tyI Tryd.prog 246 = some (false, 1) := by kernel_rfl
@[go_sem] theorem ty_1175 : zI Tryd.prog 246 = some [.nilf] := by kernel_rfl
@[go_sem] theorem ty_1176 : isIf Tryd.prog 246 = false := by kernel_rfl
@[go_sem] theorem ty_1177 : (Tryd.prog.underlying 247).isSome = true := by kernel_rfl
@[go_sem] theorem ty_1178 : tyI Tryd.prog 247 = some (true, 20) := by kernel_rfl
@[go_sem] theorem ty_1179 : arI Tryd.prog 247 = some (20, 1, false) := by kernel_rfl
@[go_sem] theorem ty_1180 : bdI Tryd.prog 247 = some ([.d (.int .u64 0), .d (.int .u64 0), .d (.int .u64 0), .d (.int .u64 0), .d (.int .u64 0), .d (.int .u64 0), .d (.int .u64 0), .d (.int .u64 0), .d (.int .u64 0), .d (.int .u64 0), .d (.int .u64 0), .d (.int .u64 0), .d (.int .u64 0), .d (.int .u64 0), .d (.int .u64 0), .d (.int .u64 0), .d (.int .u64 0), .d (.int .u64 0), .d (.int .u64 0), .d (.int .u64 0)], [(0, 1), (1, 1), (2, 1), (3, 1), (4, 1), (5, 1), (6, 1), (7, 1), (8, 1), (9, 1), (10, 1), (11, 1), (12, 1), (13, 1), (14, 1), (15, 1), (16, 1), (17, 1), (18, 1), (19, 1)]) := by kernel_rfl
@[go_sem] theorem ty_1181 : zI Tryd.prog 247 = some [.d (.int .u64 0), .d (.int .u64 0), .d (.int .u64 0), .d (.int .u64 0), .d (.int .u64 0), .d (.int .u64 0), .d (.int .u64 0), .d (.int .u64 0), .d (.int .u64 0), .d (.int .u64 0), .d (.int .u64 0), .d (.int .u64 0), .d (.int .u64 0), .d (.int .u64 0), .d (.int .u64 0), .d (.int .u64 0), .d (.int .u64 0), .d (.int .u64 0), .d (.int .u64 0), .d (.int .u64 0)] := by kernel_rfl
@[go_sem] theorem ty_1182 : isIf Tryd.prog 247 = false := by kernel_rfl
@[go_sem] theorem ty_1183 : (Tryd.prog.underlying 248).isSome = true := by kernel_rfl
@[go_sem] theorem ty_1184 : tyI Tryd.prog 248 = some (false, 1) := by kernel_rfl
@[go_sem] theorem ty_1185 : intI Tryd.prog 248 = some .u32 := by kernel_rfl
@[go_sem] theorem ty_1186 : zI Tryd.prog 248 = some [.d (.int .u32 0)] := by kernel_rfl
@[go_sem] theorem ty_1187 : isIf Tryd.prog 248 = false := by kernel_rfl
@[go_sem] theorem ty_1188 : (Tryd.prog.underlying 249).isSome = true := by kernel_rfl
@[go_sem] theorem ty_1189 : tyI Tryd.prog 249 = some (true, 65) := by kernel_rfl
@[go_sem] theorem ty_1190 : arI Tryd.prog 249 = some (65, 1, false) := by kernel_rfl
@[go_sem] theorem ty_1191 : isIf Tryd.prog 249 = false := by kernel_rfl
@[go_sem] theorem ty_1192 : (Tryd.prog.underlying 250).isSome = true := by kernel_rfl
@[go_sem] theorem ty_1193 : tyI Tryd.prog 250 = some (false, 1) := by kernel_rfl
@[go_sem] theorem ty_1194 : zI Tryd.prog 250 = some [.nilf] := by kernel_rfl
@[go_sem] theorem ty_1195 : isIf Tryd.prog 250 = false := by kernel_rfl
@[go_sem] theorem ty_1196 : (Tryd.prog.underlying 251).isSome = true := by kernel_rfl
@[go_sem] theorem ty_1197 : tyI Tryd.prog 251 = some (false, 1) := by kernel_rfl
@[go_sem] theorem ty_1198 : zI Tryd.prog 251 = some [.nilf] := by kernel_rfl
@[go_sem] theorem ty_1199 : isIf Tryd.prog 251 = false := by kernel_rfl
@[go_sem] theorem ty_1200 : (Tryd.prog.underlying 252).isSome = true := by kernel_rfl
@[go_sem] theorem ty_1201 : tyI Tryd.prog 252 = some (false, 1) := by kernel_rfl
@[go_sem] theorem ty_1202 : zI Tryd.prog 252 = some [.nilf] := by kernel_rfl
@[go_sem] theorem ty_1203 : isIf Tryd.prog 252 = false := by kernel_rfl
@[go_sem] theorem ty_1204 : (Tryd.prog.underlying 253).isSome = true := by kernel_rfl
@[go_sem] theorem ty_1205 : tyI Tryd.prog 253 = some (false, 1) := by kernel_rfl
@[go_sem] theorem ty_1206 : isIf Tryd.prog 253 = false := by kernel_rfl
@[go_sem] theorem ty_1207 : (Tryd.prog.underlying 254).isSome = true := by kernel_rfl
@[go_sem] theorem ty_1208 : tyI Tryd.prog 254 = some (false, 1) := by kernel_rfl
@[go_sem] theorem ty_1209 : zI Tryd.prog 254 = some [.nilf] := by kernel_rfl
@[go_sem] theorem ty_1210 : isIf Tryd.prog 254 = false := by kernel_rfl
@[go_sem] theorem ty_1211 : (Tryd.prog.underlying 255).isSome = true := by kernel_rfl
@[go_sem] theorem ty_1212 : tyI Tryd.prog 255 = some (false, 1) := by kernel_rfl
@[go_sem] theorem ty_1213 : intI Tryd.prog 255 = some .i64 := by kernel_rfl
@[go_sem] theorem ty_1214 : zI Tryd.prog 255 = some [.d (.int .i64 0)] := by kernel_rfl
@[go_sem] theorem ty_1215 : isIf Tryd.prog 255 = false := by kernel_rfl
@[go_sem] theorem ty_1216 : (Tryd.prog.underlying 256).isSome = true := by kernel_rfl
@[go_sem] theorem ty_1217 : tyI Tryd.prog 256 = some (false, 1) := by kernel_rfl
@[go_sem] theorem ty_1218 : isIf Tryd.prog 256 = false := by kernel_rfl
@[go_sem] theorem ty_1219 : (Tryd.prog.underlying 257).isSome = true := by kernel_rfl
@[go_sem] theorem ty_1220 : tyI Tryd.prog 257 = some (false, 1) := by kernel_rfl
@[go_sem] theorem ty_1221 : zI Tryd.prog 257 = some [.nilf] := by kernel_rfl
@[go_sem] theorem ty_1222 : isIf Tryd.prog 257 = false := by kernel_rfl
@[go_sem] theorem ty_1223 : (Tryd.prog.underlying 258).isSome = true := by kernel_rfl
@[go_sem] theorem ty_1224 : tyI Tryd.prog 258 = some (false, 1) := by kernel_rfl
@[go_sem] theorem ty_1225 : zI Tryd.prog 258 = some [.nilp] := by kernel_rfl
@[go_sem] theorem ty_1226 : isIf Tryd.prog 258 = false := by kernel_rfl
@[go_sem] theorem ty_1227 : (Tryd.prog.underlying 259).isSome = true := by kernel_rfl
@[go_sem] theorem ty_1228 : tyI Tryd.prog 259 = some (false, 1) := by kernel_rfl
@[go_sem] theorem ty_1229 : zI Tryd.prog 259 = some [.nilf] := by kernel_rfl
@[go_sem] theorem ty_1230 : isIf Tryd.prog 259 = false := by kernel_rfl
@[go_sem] theorem ty_1231 : (Tryd.prog.underlying 260).isSome = true := by kernel_rfl
@[go_sem] theorem ty_1232 : tyI Tryd.prog 260 = some (false, 1) := by kernel_rfl
@[go_sem] theorem ty_1233 : zI Tryd.prog 260 = some [.nilf] := by kernel_rfl
@[go_sem] theorem ty_1234 : isIf Tryd.prog 260 = false := by kernel_rfl
@[go_sem] theorem ty_1235 : (Tryd.prog.underlying 261).isSome = true := by kernel_rfl
@[go_sem] theorem ty_1236 : tyI Tryd.prog 261 = some (false, 1) := by kernel_rfl
@[go_sem] theorem ty_1237 : zI Tryd.prog 261 = some [.nilf] := by kernel_rfl
@[go_sem] theorem ty_1238 : isIf Tryd.prog 261 = false := by kernel_rfl
@[go_sem] theorem ty_1239 : (Tryd.prog.underlying 262).isSome = true := by kernel_rfl
@[go_sem] theorem ty_1240 : tyI Tryd.prog 262 = some (false, 1) := by kernel_rfl
@[go_sem] theorem ty_1241 : zI Tryd.prog 262 = some [.nilf] := by kernel_rfl
@[go_sem] theorem ty_1242 : isIf Tryd.prog 262 = false := by kernel_rfl
@[go_sem] theorem ty_1243 : (Tryd.prog.underlying 263).isSome = true := by kernel_rfl
@[go_sem] theorem ty_1244 : tyI Tryd.prog 263 = some (false, 1) := by kernel_rfl
@[go_sem] theorem ty_1245 : zI Tryd.prog 263 = some [.nilf] := by kernel_rfl
@[go_sem] theorem ty_1246 : isIf Tryd.prog 263 = false := by kernel_rfl
@[go_sem] theorem ty_1247 : (Tryd.prog.underlying 264).isSome = true := by kernel_rfl
@[go_sem] theorem ty_1248 : tyI Tryd.prog 264 = some (true, 256) := by kernel_rfl
@[go_sem] theorem ty_1249 : arI Tryd.prog 264 = some (256, 1, false) := by kernel_rfl
@[go_sem] theorem ty_1250 : isIf Tryd.prog 264 = false := by kernel_rfl
@[go_sem] theorem ty_1251 : (Tryd.prog.underlying 265).isSome = true := by kernel_rfl
@[go_sem] theorem ty_1252 : tyI Tryd.prog 265 = some (true, 2) := by kernel_rfl
@[go_sem] theorem ty_1253 : fdI Tryd.prog 265 0 = some (0, 1, false) := by kernel_rfl
@[go_sem] theorem ty_1254 : fdI Tryd.prog 265 1 = some (1, 1, false) := by kernel_rfl
@[go_sem] theorem ty_1255 : bdI Tryd.prog 265 = some ([.d (.int .u8 0), .d (.int .u8 0)], [(0, 1), (1, 1)]) := by kernel_rfl
@[go_sem] theorem ty_1256 : zI Tryd.prog 265 = some [.d (.int .u8 0), .d (.int .u8 0)] := by kernel_rfl
@[go_sem] theorem ty_1257 : eqI Tryd.prog 265 = some [1, 1] := by kernel_rfl
@[go_sem] theorem ty_1258 : isIf Tryd.prog 265 = false := by kernel_rfl
@[go_sem] theorem ty_1259 : (Tryd.prog.underlying 266).isSome = true := by kernel_rfl
@[go_sem] theorem ty_1260 : tyI Tryd.prog 266 = some (true, 2) := by kernel_rfl
@[go_sem] theorem ty_1261 : fdI Tryd.prog 266 0 = some (0, 1, false) := by kernel_rfl
@[go_sem] theorem ty_1262 : fdI Tryd.prog 266 1 = some (1, 1, false) := by kernel_rfl
@[go_sem] theorem ty_1263 : bdI Tryd.prog 266 = some ([.d (.int .u8 0), .d (.int .u8 0)], [(0, 1), (1, 1)]) := by kernel_rfl
@[go_sem] theorem ty_1264 : zI Tryd.prog 266 = some [.d (.int .u8 0), .d (.int .u8 0)] := by kernel_rfl
@[go_sem] theorem ty_1265 : eqI Tryd.prog 266 = some [1, 1] := by kernel_rfl
@[go_sem] theorem ty_1266 : isIf Tryd.prog 266 = false := by kernel_rfl
@[go_sem] theorem ty_1267 : (Tryd.prog.underlying 267).isSome = true := by kernel_rfl
@[go_sem] theorem ty_1268 : tyI Tryd.prog 267 = some (true, 32) := by kernel_rfl
@[go_sem] theorem ty_1269 : arI Tryd.prog 267 = some (16, 2, true) := by kernel_rfl
@[go_sem] theorem ty_1270 : bdI Tryd.prog 267 = some ([.d (.int .u8 0), .d (.int .u8 0), .d (.int .u8 0), .d (.int .u8 0), .d (.int .u8 0), .d (.int .u8 0), .d (.int .u8 0), .d (.int .u8 0), .d (.int .u8 0), .d (.int .u8 0), .d (.int .u8 0), .d (.int .u8 0), .d (.int .u8 0), .d (.int .u8 0), .d (.int .u8 0), .d (.int .u8 0), .d (.int .u8 0), .d (.int .u8 0), .d (.int .u8 0), .d (.int .u8 0), .d (.int .u8 0), .d (.int .u8 0), .d (.int .u8 0), .d (.int .u8 0), .d (.int .u8 0), .d (.int .u8 0), .d (.int .u8 0), .d (.int .u8 0), .d (.int .u8 0), .d (.int .u8 0), .d (.int .u8 0), .d (.int .u8 0)], [(0, 2), (2, 2), (4, 2), (6, 2), (8, 2), (10, 2), (12, 2), (14, 2), (16, 2), (18, 2), (20, 2), (22, 2), (24, 2), (26, 2), (28, 2), (30, 2)]) := by kernel_rfl
@[go_sem] theorem ty_1271 : zI Tryd.prog 267 = some [.d (.int .u8 0), .d (.int .u8 0), .d (.int .u8 0), .d (.int .u8 0), .d (.int .u8 0), .d (.int .u8 0), .d (.int .u8 0), .d (.int .u8 0), .d (.int .u8 0), .d (.int .u8 0), .d (.int .u8 0), .d (.int .u8 0), .d (.int .u8 0), .d (.int .u8 0), .d (.int .u8 0), .d (.int .u8 0), .d (.int .u8 0), .d (.int .u8 0), .d (.int .u8 0), .d (.int .u8 0), .d (.int .u8 0), .d (.int .u8 0), .d (.int .u8 0), .d (.int .u8 0), .d (.int .u8 0), .d (.int .u8 0), .d (.int .u8 0), .d (.int .u8 0), .d (.int .u8 0), .d (.int .u8 0), .d (.int .u8 0), .d (.int .u8 0)] := by kernel_rfl
@[go_sem] theorem ty_1272 : isIf Tryd.prog 267 = false := by kernel_rfl
@[go_sem] theorem ty_1273 : (Tryd.prog.underlying 268).isSome = true := by kernel_rfl
@[go_sem] theorem ty_1274 : tyI Tryd.prog 268 = some (false, 1) := by kernel_rfl
@[go_sem] theorem ty_1275 : isIf Tryd.prog 268 = false := by kernel_rfl
@[go_sem] theorem ty_1276 : (Tryd.prog.underlying 269).isSome = true := by kernel_rfl
@[go_sem] theorem ty_1277 : tyI Tryd.prog 269 = some (false, 1) := by kernel_rfl
@[go_sem] theorem ty_1278 : zI Tryd.prog 269 = some [.nilf] := by kernel_rfl
@[go_sem] theorem ty_1279 : isIf Tryd.prog 269 = false := by kernel_rfl
@[go_sem] theorem ty_1280 : (Tryd.prog.underlying 270).isSome = true := by kernel_rfl
@[go_sem] theorem ty_1281 : tyI Tryd.prog 270 = some (true, 3) := by kernel_rfl
@[go_sem] theorem ty_1282 : fdI Tryd.prog 270 0 = some (0, 1, false) := by kernel_rfl
@[go_sem] theorem ty_1283 : fdI Tryd.prog 270 1 = some (1, 1, false) := by kernel_rfl
@[go_sem] theorem ty_1284 : fdI Tryd.prog 270 2 = some (2, 1, false) := by kernel_rfl
@[go_sem] theorem ty_1285 : bdI Tryd.prog 270 = some ([.d (.str []), .d (.str []), .nili], [(0, 1), (1, 1), (2, 1)]) := by kernel_rfl
@[go_sem] theorem ty_1286 : zI Tryd.prog 270 = some [.d (.str []), .d (.str []), .nili] := by kernel_rfl
@[go_sem] theorem ty_1287 : isIf Tryd.prog 270 = false := by kernel_rfl
@[go_sem] theorem ty_1288 : (Tryd.prog.underlying 271).isSome = true := by kernel_rfl
@[go_sem] theorem ty_1289 : tyI Tryd.prog 271 = some (true, 3) := by kernel_rfl
@[go_sem] theorem ty_1290 : fdI Tryd.prog 271 0 = some (0, 1, false) := by kernel_rfl
@[go_sem] theorem ty_1291 : fdI Tryd.prog 271 1 = some (1, 1, false) := by kernel_rfl
@[go_sem] theorem ty_1292 : fdI Tryd.prog 271 2 = some (2, 1, false) := by kernel_rfl
@[go_sem] theorem ty_1293 : bdI Tryd.prog 271 = some ([.d (.str []), .d (.str []), .nili], [(0, 1), (1, 1), (2, 1)]) := by kernel_rfl
@[go_sem] theorem ty_1294 : zI Tryd.prog 271 = some [.d (.str []), .d (.str []), .nili] := by kernel_rfl
@[go_sem] theorem ty_1295 : isIf Tryd.prog 271 = false := by kernel_rfl
@[go_sem] theorem ty_1296 : (Tryd.prog.underlying 272).isSome = true := by kernel_rfl
@[go_sem] theorem ty_1297 : tyI Tryd.prog 272 = some (false, 1) := by kernel_rfl
@[go_sem] theorem ty_1298 : zI Tryd.prog 272 = some [.nilf] := by kernel_rfl
@[go_sem] theorem ty_1299 : isIf Tryd.prog 272 = false := by kernel_rfl
@[go_sem] theorem ty_1300 : (Tryd.prog.underlying 273).isSome = true := by kernel_rfl
@[go_sem] theorem ty_1301 : tyI Tryd.prog 273 = some (true, 32) := by kernel_rfl
@[go_sem] theorem ty_1302 : arI Tryd.prog 273 = some (32, 1, false) := by kernel_rfl
@[go_sem] theorem ty_1303 : bdI Tryd.prog 273 = some ([.d (.int .u8 0), .d (.int .u8 0), .d (.int .u8 0), .d (.int .u8 0), .d (.int .u8 0), .d (.int .u8 0), .d (.int .u8 0), .d (.int .u8 0), .d (.int .u8 0), .d (.int .u8 0), .d (.int .u8 0), .d (.int .u8 0), .d (.int .u8 0), .d (.int .u8 0), .d (.int .u8 0), .d (.int .u8 0), .d (.int .u8 0), .d (.int .u8 0), .d (.int .u8 0), .d (.int .u8 0), .d (.int .u8 0), .d (.int .u8 0), .d (.int .u8 0), .d (.int .u8 0), .d (.int .u8 0), .d (.int .u8 0), .d (.int .u8 0), .d (.int .u8 0), .d (.int .u8 0), .d (.int .u8 0), .d (.int .u8 0), .d (.int .u8 0)], [(0, 1), (1, 1), (2, 1), (3, 1), (4, 1), (5, 1), (6, 1), (7, 1), (8, 1), (9, 1), (10, 1), (11, 1), (12, 1), (13, 1), (14, 1), (15, 1), (16, 1), (17, 1), (18, 1), (19, 1), (20, 1), (21, 1), (22, 1), (23, 1), (24, 1), (25, 1), (26, 1), (27, 1), (28, 1), (29, 1), (30, 1), (31, 1)]) := by kernel_rfl
@[go_sem] theorem ty_1304 : zI Tryd.prog 273 = some [.d (.int .u8 0), .d (.int .u8 0), .d (.int .u8 0), .d (.int .u8 0), .d (.int .u8 0), .d (.int .u8 0), .d (.int .u8 0), .d (.int .u8 0), .d (.int .u8 0), .d (.int .u8 0), .d (.int .u8 0), .d (.int .u8 0), .d (.int .u8 0), .d (.int .u8 0), .d (.int .u8 0), .d (.int .u8 0), .d (.int .u8 0), .d (.int .u8 0), .d (.int .u8 0), .d (.int .u8 0), .d (.int .u8 0), .d (.int .u8 0), .d (.int .u8 0), .d (.int .u8 0), .d (.int .u8 0), .d (.int .u8 0), .d (.int .u8 0), .d (.int .u8 0), .d (.int .u8 0), .d (.int .u8 0), .d (.int .u8 0), .d (.int .u8 0)] := by kernel_rfl
@[go_sem] theorem ty_1305 : isIf Tryd.prog 273 = false := by kernel_rfl
@[go_sem] theorem ty_1306 : (Tryd.prog.underlying 274).isSome = true := by kernel_rfl
@[go_sem] theorem ty_1307 : tyI Tryd.prog 274 = some (true, 64) := by kernel_rfl
@[go_sem] theorem ty_1308 : arI Tryd.prog 274 = some (64, 1, false) := by kernel_rfl
@[go_sem] theorem ty_1309 : bdI Tryd.prog 274 = some ([.d (.int .u8 0), .d (.int .u8 0), .d (.int .u8 0), .d (.int .u8 0), .d (.int .u8 0), .d (.int .u8 0), .d (.int .u8 0), .d (.int .u8 0), .d (.int .u8 0), .d (.int .u8 0), .d (.int .u8 0), .d (.int .u8 0), .d (.int .u8 0), .d (.int .u8 0), .d (.int .u8 0), .d (.int .u8 0), .d (.int .u8 0), .d (.int .u8 0), .d (.int .u8 0), .d (.int .u8 0), .d (.int .u8 0), .d (.int .u8 0), .d (.int .u8 0), .d (.int .u8 0), .d (.int .u8 0), .d (.int .u8 0), .d (.int .u8 0), .d (.int .u8 0), .d (.int .u8 0), .d (.int .u8 0), .d (.int .u8 0), .d (.int .u8 0), .d (.int .u8 0), .d (.int .u8 0), .d (.int .u8 0), .d (.int .u8 0), .d (.int .u8 0), .d (.int .u8 0), .d (.int .u8 0), .d (.int .u8 0), .d (.int .u8 0), .d (.int .u8 0), .d (.int .u8 0), .d (.int .u8 0), .d (.int .u8 0), .d (.int .u8 0), .d (.int .u8 0), .d (.int .u8 0), .d (.int .u8 0), .d (.int .u8 0), .d (.int .u8 0), .d (.int .u8 0), .d (.int .u8 0), .d (.int .u8 0), .d (.int .u8 0), .d (.int .u8 0), .d (.int .u8 0), .d (.int .u8 0), .d (.int .u8 0), .d (.int .u8 0), .d (.int .u8 0), .d (.int .u8 0), .d (.int .u8 0), .d (.int .u8 0)], [(0, 1), (1, 1), (2, 1), (3, 1), (4, 1), (5, 1), (6, 1), (7, 1), (8, 1), (9, 1), (10, 1), (11, 1), (12, 1), (13, 1), (14, 1), (15, 1), (16, 1), (17, 1), (18, 1), (19, 1), (20, 1), (21, 1), (22, 1), (23, 1), (24, 1), (25, 1), (26, 1), (27, 1), (28, 1), (29, 1), (30, 1), (31, 1), (32, 1), (33, 1), (34, 1), (35, 1), (36, 1), (37, 1), (38, 1), (39, 1), (40, 1), (41, 1), (42, 1), (43, 1), (44, 1), (45, 1), (46, 1), (47, 1), (48, 1), (49, 1), (50, 1), (51, 1), (52, 1), (53, 1), (54, 1), (55, 1), (56, 1), (57, 1), (58, 1), (59, 1), (60, 1), (61, 1), (62, 1), (63, 1)]) := by kernel_rfl
@[go_sem] theorem ty_1310 : zI Tryd.prog 274 = some [.d (.int .u8 0), .d (.int .u8 0), .d (.int .u8 0), .d (.int .u8 0), .d (.int .u8 0), .d (.int .u8 0), .d (.int .u8 0), .d (.int .u8 0), .d (.int .u8 0), .d (.int .u8 0), .d (.int .u8 0), .d (.int .u8 0), .d (.int .u8 0), .d (.int .u8 0), .d (.int .u8 0), .d (.int .u8 0), .d (.int .u8 0), .d (.int .u8 0), .d (.int .u8 0), .d (.int .u8 0), .d (.int .u8 0), .d (.int .u8 0), .d (.int .u8 0), .d (.int .u8 0), .d (.int .u8 0), .d (.int .u8 0), .d (.int .u8 0), .d (.int .u8 0), .d (.int .u8 0), .d (.int .u8 0), .d (.int .u8 0), .d (.int .u8 0), .d (.int .u8 0), .d (.int .u8 0), .d (.int .u8 0), .d (.int .u8 0), .d (.int .u8 0), .d (.int .u8 0), .d (.int .u8 0), .d (.int .u8 0), .d (.int .u8 0), .d (.int .u8 0), .d (.int .u8 0), .d (.int .u8 0), .d (.int .u8 0), .d (.int .u8 0), .d (.int .u8 0), .d (.int .u8 0), .d (.int .u8 0), .d (.int .u8 0), .d (.int .u8 0), .d (.int .u8 0), .d (.int .u8 0), .d (.int .u8 0), .d (.int .u8 0), .d (.int .u8 0), .d (.int .u8 0), .d (.int .u8 0), .d (.int .u8 0), .d (.int .u8 0), .d (.int .u8 0), .d (.int .u8 0), .d (.int .u8 0), .d (.int .u8 0)] := by kernel_rfl
@[go_sem] theorem ty_1311 : isIf Tryd.prog 274 = false := by kernel_rfl
@[go_sem] theorem ty_1312 : (Tryd.prog.underlying 275).isSome = true := by kernel_rfl
@[go_sem] theorem ty_1313 : tyI Tryd.prog 275 = some (false, 1) := by kernel_rfl
@[go_sem] theorem ty_1314 : zI Tryd.prog 275 = some [.nilp] := by kernel_rfl
@[go_sem] theorem ty_1315 : isIf Tryd.prog 275 = false := by kernel_rfl
@[go_sem] theorem ty_1316 : (Tryd.prog.underlying 276).isSome = true := by kernel_rfl
@[go_sem] theorem ty_1317 : tyI Tryd.prog 276 = some (true, 1) := by kernel_rfl
@[go_sem] theorem ty_1318 : fdI Tryd.prog 276 0 = some (0, 1, false) := by kernel_rfl
@[go_sem] theorem ty_1319 : bdI Tryd.prog 276 = some ([.d (.str [])], [(0, 1)]) := by kernel_rfl
@[go_sem] theorem ty_1320 : zI Tryd.prog 276 = some [.d (.str [])] := by kernel_rfl
@[go_sem] theorem ty_1321 : eqI Tryd.prog 276 = some [3] := by kernel_rfl
@[go_sem] theorem ty_1322 : isIf Tryd.prog 276 = false := by kernel_rfl
@[go_sem] theorem ty_1323 : (Tryd.prog.underlying 277).isSome = true := by kernel_rfl
@[go_sem] theorem ty_1324 : tyI Tryd.prog 277 = some (true, 1) := by kernel_rfl
@[go_sem] theorem ty_1325 : fdI Tryd.prog 277 0 = some (0, 1, false) := by kernel_rfl
@[go_sem] theorem ty_1326 : bdI Tryd.prog 277 = some ([.d (.str [])], [(0, 1)]) := by kernel_rfl
@[go_sem] theorem ty_1327 : zI Tryd.prog 277 = some [.d (.str [])] := by kernel_rfl
@[go_sem] theorem ty_1328 : eqI Tryd.prog 277 = some [3] := by kernel_rfl
@[go_sem] theorem ty_1329 : isIf Tryd.prog 277 = false := by kernel_rfl
@[go_sem] theorem ty_1330 : (Tryd.prog.underlying 278).isSome = true := by kernel_rfl
@[go_sem] theorem ty_1331 : tyI Tryd.prog 278 = some (true, 4) := by kernel_rfl
@[go_sem] theorem ty_1332 : fdI Tryd.prog 278 0 = some (0, 1, false) := by kernel_rfl
@[go_sem] theorem ty_1333 : fdI Tryd.prog 278 1 = some (1, 1, false) := by kernel_rfl
@[go_sem] theorem ty_1334 : fdI Tryd.prog 278 2 = some (2, 1, false) := by kernel_rfl
@[go_sem] theorem ty_1335 : fdI Tryd.prog 278 3 = some (3, 1, false) := by kernel_rfl
@[go_sem] theorem ty_1336 : bdI Tryd.prog 278 = some ([.nilp, .nilp, .nilp, .d (.str [])], [(0, 1), (1, 1), (2, 1), (3, 1)]) := by kernel_rfl
@[go_sem] theorem ty_1337 : zI Tryd.prog 278 = some [.nilp, .nilp, .nilp, .d (.str [])] := by kernel_rfl
@[go_sem] theorem ty_1338 : isIf Tryd.prog 278 = false := by kernel_rfl
@[go_sem] theorem ty_1339 : (Tryd.prog.underlying 279).isSome = true := by kernel_rfl
@[go_sem] theorem ty_1340 : tyI Tryd.prog 279 = some (true, 4) := by kernel_rfl
@[go_sem] theorem ty_1341 : fdI Tryd.prog 279 0 = some (0, 1, false) := by kernel_rfl
@[go_sem] theorem ty_1342 : fdI Tryd.prog 279 1 = some (1, 1, false) := by kernel_rfl
@[go_sem] theorem ty_1343 : fdI Tryd.prog 279 2 = some (2, 1, false) := by kernel_rfl
@[go_sem] theorem ty_1344 : fdI Tryd.prog 279 3 = some (3, 1, false) := by kernel_rfl
@[go_sem] theorem ty_1345 : bdI Tryd.prog 279 = some ([.nilp, .nilp, .nilp, .d (.str [])], [(0, 1), (1, 1), (2, 1), (3, 1)]) := by kernel_rfl
@[go_sem] theorem ty_1346 : zI Tryd.prog 279 = some [.nilp, .nilp, .nilp, .d (.str [])] := by kernel_rfl
@[go_sem] theorem ty_1347 : isIf Tryd.prog 279 = false := by kernel_rfl
@[go_sem] theorem ty_1348 : (Tryd.prog.underlying 280).isSome = true := by kernel_rfl
@[go_sem] theorem ty_1349 : tyI Tryd.prog 280 = some (true, 0) := by kernel_rfl
@[go_sem] theorem ty_1350 : arI Tryd.prog 280 = some (0, 1, false) := by kernel_rfl
@[go_sem] theorem ty_1351 : bdI Tryd.prog 280 = some ([], []) := by kernel_rfl
@[go_sem] theorem ty_1352 : zI Tryd.prog 280 = some [] := by kernel_rfl
@[go_sem] theorem ty_1353 : isIf Tryd.prog 280 = false := by kernel_rfl
@[go_sem] theorem ty_1354 : (Tryd.prog.underlying 281).isSome = true := by kernel_rfl
@[go_sem] theorem ty_1355 : tyI Tryd.prog 281 = some (true, 0) := by kernel_rfl
@[go_sem] theorem ty_1356 : bdI Tryd.prog 281 = some ([], [(0, 0)]) := by kernel_rfl
@[go_sem] theorem ty_1357 : zI Tryd.prog 281 = some [] := by kernel_rfl
@[go_sem] theorem ty_1358 : isIf Tryd.prog 281 = false := by kernel_rfl
@[go_sem] theorem ty_1359 : (Tryd.prog.underlying 282).isSome = true := by kernel_rfl
@[go_sem] theorem ty_1360 : tyI Tryd.prog 282 = some (true, 0) := by kernel_rfl
@[go_sem] theorem ty_1361 : bdI Tryd.prog 282 = some ([], [(0, 0)]) := by kernel_rfl
@[go_sem] theorem ty_1362 : zI Tryd.prog 282 = some [] := by kernel_rfl
@[go_sem] theorem ty_1363 : isIf Tryd.prog 282 = false := by kernel_rfl
@[go_sem] theorem ty_1364 : (Tryd.prog.underlying 283).isSome = true := by kernel_rfl
@[go_sem] theorem ty_1365 : tyI Tryd.prog 283 = some (false, 1) := by kernel_rfl
@[go_sem] theorem ty_1366 : intI Tryd.prog 283 = some .u8 := by kernel_rfl
@[go_sem] theorem ty_1367 : zI Tryd.prog 283 = some [.d (.int .u8 0)] := by kernel_rfl
@[go_sem] theorem ty_1368 : isIf Tryd.prog 283 = false := by kernel_rfl
@[go_sem] theorem ty_1369 : (Tryd.prog.underlying 284).isSome = true := by kernel_rfl
@[go_sem] theorem ty_1370 : tyI Tryd.prog 284 = some (false, 1) := by kernel_rfl
@[go_sem] theorem ty_1371 : intI Tryd.prog 284 = some .u8 := by kernel_rfl
@[go_sem] theorem ty_1372 : zI Tryd.prog 284 = some [.d (.int .u8 0)] := by kernel_rfl
@[go_sem] theorem ty_1373 : isIf Tryd.prog 284 = false := by kernel_rfl
@[go_sem] theorem ty_1374 : (Tryd.prog.underlying 285).isSome = true := by kernel_rfl
@[go_sem] theorem ty_1375 : tyI Tryd.prog 285 = some (false, 1) := by kernel_rfl
@[go_sem] theorem ty_1376 : zI Tryd.prog 285 = some [.nilf] := by kernel_rfl
@[go_sem] theorem ty_1377 : isIf Tryd.prog 285 = false := by kernel_rfl
@[go_sem] theorem ty_1378 : (Tryd.prog.underlying 286).isSome = true := by kernel_rfl
@[go_sem] theorem ty_1379 : tyI Tryd.prog 286 = some (false, 1) := by kernel_rfl
@[go_sem] theorem ty_1380 : intI Tryd.prog 286 = some .i32 := by kernel_rfl
@[go_sem] theorem ty_1381 : zI Tryd.prog 286 = some [.d (.int .i32 0)] := by kernel_rfl
@[go_sem] theorem ty_1382 : isIf Tryd.prog 286 = false := by kernel_rfl
@[go_sem] theorem ty_1383 : (Tryd.prog.underlying 287).isSome = true := by kernel_rfl
@[go_sem] theorem ty_1384 : tyI Tryd.prog 287 = some (false, 1) := by kernel_rfl
@[go_sem] theorem ty_1385 : intI Tryd.prog 287 = some .i32 := by kernel_rfl
@[go_sem] theorem ty_1386 : zI Tryd.prog 287 = some [.d (.int .i32 0)] := by kernel_rfl
@[go_sem] theorem ty_1387 : isIf Tryd.prog 287 = false := by kernel_rfl
@[go_sem] theorem ty_1388 : (Tryd.prog.underlying 288).isSome = true := by kernel_rfl
@[go_sem] theorem ty_1389 : tyI Tryd.prog 288 = some (true, 11) := by kernel_rfl
@[go_sem] theorem ty_1390 : fdI Tryd.prog 288 0 = some (0, 1, false) := by kernel_rfl
@[go_sem] theorem ty_1391 : fdI Tryd.prog 288 1 = some (1, 1, false) := by kernel_rfl
@[go_sem] theorem ty_1392 : fdI Tryd.prog 288 2 = some (2, 1, false) := by kernel_rfl
@[go_sem] theorem ty_1393 : fdI Tryd.prog 288 3 = some (3, 1, false) := by kernel_rfl
@[go_sem] theorem ty_1394 : fdI Tryd.prog 288 4 = some (4, 1, false) := by kernel_rfl
@[go_sem] theorem ty_1395 : fdI Tryd.prog 288 5 = some (5, 1, false) := by kernel_rfl
@[go_sem] theorem ty_1396 : fdI Tryd.prog 288 6 = some (6, 1, false) := by kernel_rfl
@[go_sem] theorem ty_1397 : fdI Tryd.prog 288 7 = some (7, 1, false) := by kernel_rfl
@[go_sem] theorem ty_1398 : fdI Tryd.prog 288 8 = some (8, 1, false) := by kernel_rfl
@[go_sem] theorem ty_1399 : fdI Tryd.prog 288 9 = some (9, 1, false) := by kernel_rfl
@[go_sem] theorem ty_1400 : fdI Tryd.prog 288 10 = some (10, 1, false) := by kernel_rfl
@[go_sem] theorem ty_1401 : bdI Tryd.prog 288 = some ([.d (.int .u64 0), .d (.int .u64 0), .d (.int .u32 0), .d (.int .u8 0), .d (.int .u8 0), .d (.int .u8 0), .d (.int .u8 0), .nilf, .nilp, .d (.int .i32 0), .d (.int .i32 0)], [(0, 1), (1, 1), (2, 1), (3, 1), (4, 1), (5, 1), (6, 1), (7, 1), (8, 1), (9, 1), (10, 1)]) := by kernel_rfl
@[go_sem] theorem ty_1402 : zI Tryd.prog 288 = some [.d (.int .u64 0), .d (.int .u64 0), .d (.int .u32 0), .d (.int .u8 0), .d (.int .u8 0), .d (.int .u8 0), .d (.int .u8 0), .nilf, .nilp, .d (.int .i32 0), .d (.int .i32 0)] := by kernel_rfl
@[go_sem] theorem ty_1403 : isIf Tryd.prog 288 = false := by kernel_rfl
@[go_sem] theorem ty_1404 : (Tryd.prog.underlying 289).isSome = true := by kernel_rfl
@[go_sem] theorem ty_1405 : tyI Tryd.prog 289 = some (true, 11) := by kernel_rfl
@[go_sem] theorem ty_1406 : fdI Tryd.prog 289 0 = some (0, 1, false) := by kernel_rfl
@[go_sem] theorem ty_1407 : fdI Tryd.prog 289 1 = some (1, 1, false) := by kernel_rfl
@[go_sem] theorem ty_1408 : fdI Tryd.prog 289 2 = some (2, 1, false) := by kernel_rfl
@[go_sem] theorem ty_1409 : fdI Tryd.prog 289 3 = some (3, 1, false) := by kernel_rfl
@[go_sem] theorem ty_1410 : fdI Tryd.prog 289 4 = some (4, 1, false) := by kernel_rfl
@[go_sem] theorem ty_1411 : fdI Tryd.prog 289 5 = some (5, 1, false) := by kernel_rfl
@[go_sem] theorem ty_1412 : fdI Tryd.prog 289 6 = some (6, 1, false) := by kernel_rfl
@[go_sem] theorem ty_1413 : fdI Tryd.prog 289 7 = some (7, 1, false) := by kernel_rfl
@[go_sem] theorem ty_1414 : fdI Tryd.prog 289 8 = some (8, 1, false) := by kernel_rfl
@[go_sem] theorem ty_1415 : fdI Tryd.prog 289 9 = some (9, 1, false) := by kernel_rfl
@[go_sem] theorem ty_1416 : fdI Tryd.prog 289 10 = some (10, 1, false) := by kernel_rfl
@[go_sem] theorem ty_1417 : bdI Tryd.prog 289 = some ([.d (.int .u64 0), .d (.int .u64 0), .d (.int .u32 0), .d (.int .u8 0), .d (.int .u8 0), .d (.int .u8 0), .d (.int .u8 0), .nilf, .nilp, .d (.int .i32 0), .d (.int .i32 0)], [(0, 1), (1, 1), (2, 1), (3, 1), (4, 1), (5, 1), (6, 1), (7, 1), (8, 1), (9, 1), (10, 1)]) := by kernel_rfl
@[go_sem] theorem ty_1418 : zI Tryd.prog 289 = some [.d (.int .u64 0), .d (.int .u64 0), .d (.int .u32 0), .d (.int .u8 0), .d (.int .u8 0), .d (.int .u8 0), .d (.int .u8 0), .nilf, .nilp, .d (.int .i32 0), .d (.int .i32 0)] := by kernel_rfl
@[go_sem] theorem ty_1419 : isIf Tryd.prog 289 = false := by kernel_rfl
end Go.Proofs.YthpkjmbdjnelfaaDoor

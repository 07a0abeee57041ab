/- Addresses in plain terms: P3.1. -/
import Derived.Test.YtddiolgeaefieaaDoorStr
import Derived.Lib.SplitLaws
import Derived.Lib.Bytealg
namespace Go.Proofs.YtddiolgeaefieaaDoor
open Go.RowKit
set_option linter.unusedSimpArgs false
set_option linter.unusedVariables false
def marksL : List UInt8 := [33, 35, 36, 37, 38, 39, 42, 43, 45, 47, 61, 63, 94, 95, 123, 124, 125, 126, 96]
def alnumB (c : UInt8) : Bool := (97 ≤ c.toNat && c.toNat ≤ 122) || (65 ≤ c.toNat && c.toNat ≤ 90) || (48 ≤ c.toNat && c.toNat ≤ 57)
def atomB (c : UInt8) : Bool := alnumB c || decide (0 ≤ Lib.indexByte marksL c)
theorem alnum_yes {c : UInt8} (h : (97 ≤ (c.toNat : Int) ∧ (c.toNat : Int) ≤ 122) ∨ (65 ≤ (c.toNat : Int) ∧ (c.toNat : Int) ≤ 90) ∨ (48 ≤ (c.toNat : Int) ∧ (c.toNat : Int) ≤ 57)) : atomB c = true := by
  have : alnumB c = true := by unfold alnumB; simp; omega
  unfold atomB; rw [this]; rfl
theorem alnum_no {c : UInt8} (h : ¬ ((97 ≤ (c.toNat : Int) ∧ (c.toNat : Int) ≤ 122) ∨ (65 ≤ (c.toNat : Int) ∧ (c.toNat : Int) ≤ 90) ∨ (48 ≤ (c.toNat : Int) ∧ (c.toNat : Int) ≤ 57))) : atomB c = decide (0 ≤ Lib.indexByte marksL c) := by
  have : alnumB c = false := by
    cases ha : alnumB c
    · rfl
    · exfalso; unfold alnumB at ha; simp at ha; omega
  unfold atomB; rw [this]; rfl
theorem indexByte_mem (c : UInt8) : ∀ l : List UInt8, 0 ≤ Lib.indexByte l c ↔ c ∈ l
  | [] => by simp [Lib.indexByte]
  | b :: l => by
    have ih := indexByte_mem c l
    have hge := Lib.indexByte_ge l c
    by_cases h : b = c
    · subst h; simp [Lib.indexByte]
    · have h' : (b == c) = false := by simpa using h
      simp only [Lib.indexByte, h', List.mem_cons]
      by_cases hm : Lib.indexByte l c = -1
      · rw [hm]
        have : c ∉ l := by rw [← ih]; omega
        simp [this, Ne.symm h]
      · have h2 : (Lib.indexByte l c == -1) = false := by simpa using hm
        simp only [h2]
        have : c ∈ l := by rw [← ih]; omega
        simp [this]
        omega
theorem atom_dot : atomB 46 = false := by decide
/-- dots and atoms, from a place on; did a dot stand last? -/
def dotGo : Bool → List UInt8 → Bool
  | d, [] => !d
  | d, c :: r => if c = 46 then !d && dotGo true r else atomB c && dotGo false r
def dottedB (s : ByteArray) : Bool := dotGo true (bs s)
def pieceOk (l : List UInt8) : Bool := !l.isEmpty && l.all atomB
theorem dotGo_plain : ∀ (d : Bool) (l : List UInt8), 46 ∉ l → dotGo d l = ((!d || !l.isEmpty) && l.all atomB)
  | d, [], _ => by simp [dotGo]
  | d, c :: r, h => by
    have h1 : c ≠ 46 := fun e => h (by simp [e])
    have ih := dotGo_plain false r (fun e => h (by simp [e]))
    simp [dotGo, h1, ih]
theorem dotGo_cut : ∀ (d : Bool) (a b : List UInt8), 46 ∉ a → dotGo d (a ++ 46 :: b) = ((!d || !a.isEmpty) && a.all atomB && dotGo true b)
  | d, [], b, _ => by simp [dotGo]
  | d, c :: a, b, h => by
    have h1 : c ≠ 46 := fun e => h (by simp [e])
    have ih := dotGo_cut false a b (fun e => h (by simp [e]))
    simp [dotGo, h1, ih, Bool.and_assoc]
theorem index_dot : ∀ l : List UInt8, (Lib.index l [46] = -1 ∧ 46 ∉ l) ∨ ∃ a b, l = a ++ 46 :: b ∧ 46 ∉ a ∧ Lib.index l [46] = a.length
  | [] => .inl ⟨by simp [Lib.index], by simp⟩
  | c :: l => by
    by_cases h : c = 46
    · subst h
      exact .inr ⟨[], l, rfl, by simp, by simp [Lib.index, List.isPrefixOf]⟩
    · have hp : ([46] : List UInt8).isPrefixOf (c :: l) = false := by simp [List.isPrefixOf, Ne.symm h]
      rcases index_dot l with ⟨h1, h2⟩ | ⟨a, b, h1, h2, h3⟩
      · exact .inl ⟨by simp [Lib.index, hp, h1], by simp [h2, Ne.symm h]⟩
      · refine .inr ⟨c :: a, b, by rw [h1]; rfl, by simp [h2, Ne.symm h], ?_⟩
        have h4 : (Lib.index l [46] == -1) = false := by rw [h3]; exact beq_false_of_ne (by omega)
        simp only [Lib.index, hp, h4, h3]
        simp
theorem split_ok : ∀ (k : Nat) (l : List UInt8), l.count 46 ≤ k → (Lib.splitK [46] 0 k l).all pieceOk = dotGo true l
  | 0, l, h => by
    have h0 : 46 ∉ l := List.count_eq_zero.1 (by omega)
    rw [dotGo_plain _ _ h0]
    simp [Lib.splitK, pieceOk]
  | k + 1, l, h => by
    rcases index_dot l with ⟨h1, h2⟩ | ⟨a, b, h1, h2, h3⟩
    · rw [dotGo_plain _ _ h2]
      simp [Lib.splitK, h1, pieceOk]
    · have h4 : (Lib.index l [46] == -1) = false := by rw [h3]; exact beq_false_of_ne (by omega)
      have hc : b.count 46 ≤ k := by rw [h1, List.count_append, List.count_cons] at h; simp at h; omega
      have ih := split_ok k b hc
      rw [Lib.splitK, if_neg (by rw [h4]; decide), h3, List.all_cons]
      simp only [Int.toNat_natCast, Nat.add_zero, List.length_singleton]
      have e1 : l.take a.length = a := by rw [h1, List.take_left]
      have e2 : l.drop (a.length + 1) = b := by
        rw [h1, ← List.drop_drop, List.drop_left]; rfl
      rw [e1, e2, ih, h1, dotGo_cut _ _ _ h2]
      simp [pieceOk]
def dotSep : ByteArray := ⟨#[46]⟩
def splitL (s : ByteArray) : List ByteArray := Lib.splitB dotSep 0 (Lib.countB s dotSep) s
theorem splitL_len (s : ByteArray) : (splitL s).length = Lib.countB s dotSep + 1 := Lib.splitB_all dotSep (by decide) 0 _ s rfl
theorem splitL_all (s : ByteArray) : (splitL s).all (fun x => pieceOk (bs x)) = dottedB s := by
  have h : ((splitL s).map (·.data.toList)).all pieceOk = dottedB s := by
    rw [splitL, Lib.splitB_data]
    exact split_ok _ _ (by
      have : Lib.countB s dotSep = Lib.count s.data.toList [46] := rfl
      rw [this, Lib.count_one]
      exact Nat.le_refl _)
  rw [← h, List.all_map]
  rfl
theorem splitB_small (sep : ByteArray) : ∀ (k : Nat) (s x : ByteArray), x ∈ Lib.splitB sep 0 k s → x.size ≤ s.size
  | 0, s, x, h => by simp [Lib.splitB] at h; rw [h]; exact Nat.le_refl _
  | k + 1, s, x, h => by
    rw [Lib.splitB] at h
    split at h
    · simp at h; rw [h]; exact Nat.le_refl _
    · rcases List.mem_cons.1 h with h | h
      · rw [h, ByteArray.size_extract]; omega
      · have := splitB_small sep k _ x h
        rw [ByteArray.size_extract] at this
        omega
theorem countB_small (s : ByteArray) : Lib.countB s dotSep ≤ s.size := Lib.countB_le dotSep (by decide) s.size s (Nat.le_refl _)
end Go.Proofs.YtddiolgeaefieaaDoor

/- Texts that the law TokenJoins rests on, packed. -/
import Derived.Test.YthpkjmbdjnelfaaDoorGD
import Derived.Deep.LoopGhost
import Derived.Test.YthpkjmbdjnelfaaDoorShelfS
import Derived.Lib.IndexAny
import Derived.Deep.RegionHeld3
import Derived.Test.YthpkjmbdjnelfaaDoorGC
import Derived.Test.YthpkjmbdjnelfaaDoorGT
import Derived.Test.YthpkjmbdjnelfaaDoorGW
import Derived.Lib.Replace
import Derived.Test.YthpkjmbdjnelfaaDoorGE
import Derived.Test.YthpkjmbdjnelfaaDoorGR
import Derived.Laws.AppendOwn
import Derived.Lib.ItoaNum
import Derived.Lib.AppendIntMem
namespace Go.Proofs.YthpkjmbdjnelfaaDoor
open Go.RowKit
set_option linter.unusedSimpArgs false
set_option linter.unusedVariables false
def letterB (c : UInt8) : Bool := (97 ≤ c.toNat && c.toNat ≤ 122) || (65 ≤ c.toNat && c.toNat ≤ 90) || c.toNat == 95
def digitB (c : UInt8) : Bool := 48 ≤ c.toNat && c.toNat ≤ 57
def wordB (c : UInt8) : Bool := letterB c || digitB c

theorem letterB_true (c : UInt8) (h : (97 ≤ (c.toNat : Int) ∧ (c.toNat : Int) ≤ 122) ∨ (65 ≤ (c.toNat : Int) ∧ (c.toNat : Int) ≤ 90) ∨ (c.toNat : Int) = 95) : letterB c = true := by
  unfold letterB; simp; omega
theorem letterB_false (c : UInt8) (h : ¬ ((97 ≤ (c.toNat : Int) ∧ (c.toNat : Int) ≤ 122) ∨ (65 ≤ (c.toNat : Int) ∧ (c.toNat : Int) ≤ 90) ∨ (c.toNat : Int) = 95)) : letterB c = false := by
  cases hl : letterB c
  · rfl
  · exfalso
    unfold letterB at hl
    simp at hl
    omega
theorem digitB_true (c : UInt8) (h : 48 ≤ (c.toNat : Int) ∧ (c.toNat : Int) ≤ 57) : digitB c = true := by unfold digitB; simp; omega
theorem digitB_false (c : UInt8) (h : ¬ (48 ≤ (c.toNat : Int) ∧ (c.toNat : Int) ≤ 57)) : digitB c = false := by
  cases hl : digitB c
  · rfl
  · exfalso
    unfold digitB at hl
    simp at hl
    omega
theorem ne_or (c : UInt8) (n : Nat) : (c.toNat : Int) = n ∨ ((c.toNat : Int) == n) = false := by
  by_cases h : (c.toNat : Int) = n
  · exact .inl h
  · exact .inr (by simpa using h)

set_option maxRecDepth 20000 in
theorem letter_any (c : UInt8) (w : World) : Calls Tryd.prog 70 #[.int .u8 c.toNat] w fun e w' => e = .returned (.bool (letterB c)) ∧ w = w' := by
  have hu : (c.toNat : Int) < 256 := by have := c.toNat_lt; omega
  have hc : (c.toNat : Int) < 65 ∨ (65 ≤ (c.toNat : Int) ∧ (c.toNat : Int) ≤ 90) ∨ (91 ≤ (c.toNat : Int) ∧ (c.toNat : Int) < 95) ∨ (c.toNat : Int) = 95 ∨ (c.toNat : Int) = 96 ∨ (97 ≤ (c.toNat : Int) ∧ (c.toNat : Int) ≤ 122) ∨ 122 < (c.toNat : Int) := by omega
  have hne : (c.toNat : Int) = 95 ∨ ((c.toNat : Int) == 95) = false := ne_or c 95
  have hcase : ((c.toNat : Int) < 65 ∧ ((c.toNat : Int) == 95) = false) ∨ (65 ≤ (c.toNat : Int) ∧ (c.toNat : Int) ≤ 90) ∨ (91 ≤ (c.toNat : Int) ∧ (c.toNat : Int) ≤ 96 ∧ ((c.toNat : Int) == 95) = false) ∨ (c.toNat : Int) = 95 ∨ (97 ≤ (c.toNat : Int) ∧ (c.toNat : Int) ≤ 122) ∨ (122 < (c.toNat : Int) ∧ ((c.toNat : Int) == 95) = false) := by
    rcases hne with h | h
    · exact .inr (.inr (.inr (.inl h)))
    · have h' : (c.toNat : Int) ≠ 95 := by simpa using h
      by_cases h1 : (c.toNat : Int) < 65
      · exact .inl ⟨h1, h⟩
      · by_cases h2 : (c.toNat : Int) ≤ 90
        · exact .inr (.inl ⟨by omega, h2⟩)
        · by_cases h3 : (c.toNat : Int) ≤ 96
          · exact .inr (.inr (.inl ⟨by omega, h3, h⟩))
          · by_cases h4 : (c.toNat : Int) ≤ 122
            · exact .inr (.inr (.inr (.inr (.inl ⟨by omega, h4⟩))))
            · exact .inr (.inr (.inr (.inr (.inr ⟨by omega, h⟩))))
  clear hne hc
  rcases hcase with ⟨h, h'⟩ | ⟨h, h'⟩ | ⟨h, h', h''⟩ | h | ⟨h, h'⟩ | ⟨h, h'⟩
  · have HB := Lib.hid (letterB_false c (by omega))
    go_enter Tryd.func70, Tryd.ntmps70
    go_wp2
    go_ret
    exact ⟨by rw [HB.out]; first | rfl | (simp; omega), rfl⟩
  · have HB := Lib.hid (letterB_true c (by omega))
    go_enter Tryd.func70, Tryd.ntmps70
    go_wp2
    go_ret
    exact ⟨by rw [HB.out]; first | rfl | (simp; omega), rfl⟩
  · have hn : (c.toNat : Int) ≠ 95 := by simpa using h''
    have HB := Lib.hid (letterB_false c (by omega))
    clear hn
    go_enter Tryd.func70, Tryd.ntmps70
    go_wp2
    go_ret
    exact ⟨by rw [HB.out]; first | rfl | (simp; omega), rfl⟩
  · have HB := Lib.hid (letterB_true c (by omega))
    go_enter Tryd.func70, Tryd.ntmps70
    go_wp2
    go_ret
    exact ⟨by rw [HB.out]; first | rfl | (simp; omega), rfl⟩
  · have HB := Lib.hid (letterB_true c (by omega))
    go_enter Tryd.func70, Tryd.ntmps70
    go_wp2
    go_ret
    exact ⟨by rw [HB.out]; first | rfl | (simp; omega), rfl⟩
  · have HB := Lib.hid (letterB_false c (by omega))
    go_enter Tryd.func70, Tryd.ntmps70
    go_wp2
    go_ret
    exact ⟨by rw [HB.out]; first | rfl | (simp; omega), rfl⟩
set_option maxRecDepth 20000 in
theorem digit_any (c : UInt8) (w : World) : Calls Tryd.prog 113 #[.int .u8 c.toNat] w fun e w' => e = .returned (.bool (digitB c)) ∧ w = w' := by
  have hu : (c.toNat : Int) < 256 := by have := c.toNat_lt; omega
  have hc : (c.toNat : Int) < 48 ∨ (48 ≤ (c.toNat : Int) ∧ (c.toNat : Int) ≤ 57) ∨ 57 < (c.toNat : Int) := by omega
  rcases hc with h | ⟨h, h'⟩ | h
  · have HB := Lib.hid (digitB_false c (by omega))
    go_enter Tryd.func113, Tryd.ntmps113
    go_wp2
    go_ret
    exact ⟨by rw [HB.out]; first | rfl | (simp; omega), rfl⟩
  · have HB := Lib.hid (digitB_true c (by omega))
    go_enter Tryd.func113, Tryd.ntmps113
    go_wp2
    go_ret
    exact ⟨by rw [HB.out]; first | rfl | (simp; omega), rfl⟩
  · have HB := Lib.hid (digitB_false c (by omega))
    go_enter Tryd.func113, Tryd.ntmps113
    go_wp2
    go_ret
    exact ⟨by rw [HB.out]; first | rfl | (simp; omega), rfl⟩
theorem word1_any (c : UInt8) (w : World) : Calls Tryd.prog 128 #[.int .u8 c.toNat] w fun e w' => e = .returned (.bool (wordB c)) ∧ w = w' := by
  have HL := Lib.hid (show wordB c = (letterB c || digitB c) from rfl)
  cases hl : letterB c
  · have hl' := (fun w => letter_any c w)
    rw [hl] at hl'
    have H := Lib.hid hl'
    clear hl'
    rw [hl] at HL
    have hd := (fun w => digit_any c w)
    generalize digitB c = d at *
    have HD := Lib.hid hd
    have HH := Lib.hid hl
    clear hd hl
    go_enter Tryd.func128, Tryd.ntmps128
    go_wp2_with fail
    refine Calls.mono (H.out _) ?_
    rintro e w' ⟨rfl, rfl⟩
    go_wp2_with fail
    refine Calls.mono (HD.out _) ?_
    rintro e w' ⟨rfl, rfl⟩
    go_wp2_with fail
    go_ret
    exact ⟨by rw [HL.out]; rfl, rfl⟩
  · have hl' := (fun w => letter_any c w)
    rw [hl] at hl'
    have H := Lib.hid hl'
    clear hl'
    rw [hl] at HL
    have HH := Lib.hid hl
    clear hl
    go_enter Tryd.func128, Tryd.ntmps128
    go_wp2_with fail
    refine Calls.mono (H.out _) ?_
    rintro e w' ⟨rfl, rfl⟩
    go_wp2_with fail
    go_ret
    exact ⟨by rw [HL.out]; rfl, rfl⟩

/-- the byte at a place, 0 if there is none -/
def nextB (s : ByteArray) (i : Nat) : UInt8 := (bs s)[i]?.getD 0
theorem nextB_in (s : ByteArray) (i : Nat) (h : i < s.size) : nextB s i = s[i] := by simp [nextB, bs_get s i h]
theorem nextB_out (s : ByteArray) (i : Nat) (h : s.size ≤ i) : nextB s i = 0 := by
  unfold nextB
  rw [List.getElem?_eq_none (by rw [bs_len]; exact h)]
  rfl

set_option maxRecDepth 20000 in
theorem next_any (g : Nat) (s : ByteArray) (i : Nat) (w : World) (h0 : w.cell? ⟨g, 0, none⟩ = some (.string s)) (h1 : w.cell? ⟨g, 1, none⟩ = some (.int .i64 i)) (hs : s.size ≤ maxLen) :
    Calls Tryd.prog 71 #[.pointer (some ⟨g, 0, none⟩)] w fun e w' => e = .returned (bv (nextB s i)) ∧ ∃ n, w' = w.drewN n := by
  unfold maxLen at hs
  by_cases h : i < s.size
  · have HN := Lib.hid (nextB_in s i h)
    have i0 : (0 : Int) ≤ i := by omega
    have i1 : (i : Int) < s.size := by omega
    have i2 : decide ((s.size : Int) ≤ (i : Int)) = false := by simp; omega
    go_enter Tryd.func71, Tryd.ntmps71
    go_wp2_with fail
    go_quiet (fail)
    go_wp2_with fail
    go_quiet (fail)
    go_wp2_with fail
    go_ret
    exact ⟨by rw [HN.out]; rfl, ⟨_, World.drewN_drewN ..⟩⟩
  · have HN := Lib.hid (nextB_out s i (by omega))
    have i1 : (s.size : Int) ≤ i := by omega
    have i2 : decide ((s.size : Int) ≤ (i : Int)) = true := by simp; omega
    go_enter Tryd.func71, Tryd.ntmps71
    go_wp2_with fail
    go_quiet (fail)
    go_wp2_with fail
    go_ret
    exact ⟨by rw [HN.out]; rfl, ⟨_, rfl⟩⟩
end Go.Proofs.YthpkjmbdjnelfaaDoor

namespace Go.Proofs.YthpkjmbdjnelfaaDoor
open Go.RowKit
set_option linter.unusedSimpArgs false
set_option linter.unusedVariables false
def markB (c : UInt8) : Bool := c.toNat == 123 || c.toNat == 125 || c.toNat == 40 || c.toNat == 41 || c.toNat == 91 || c.toNat == 93 || c.toNat == 59 || c.toNat == 44
theorem digitByte_any (c : UInt8) (w : World) : Calls Tryd.prog 118 #[.int .u8 c.toNat] w fun e w' => e = .returned (.bool (digitB c)) ∧ w = w' := by
  have hu : (c.toNat : Int) < 256 := by have := c.toNat_lt; omega
  have HL := Lib.hid (show digitB c = (decide (48 ≤ (c.toNat : Int)) && decide ((c.toNat : Int) ≤ 57)) by unfold digitB; rw [Bool.eq_iff_iff]; simp; omega)
  go_enter Tryd.func118, Tryd.ntmps118
  go_wp2_with (go_at_call 63; refine (In_any _ _ _ _).mono ?_; rintro e w' ⟨rfl, rfl⟩)
  go_ret
  exact ⟨by rw [HL.out]; rfl, rfl⟩

set_option maxRecDepth 20000 in
theorem letterByte_any (c : UInt8) (w : World) : Calls Tryd.prog 78 #[.int .u8 c.toNat] w fun e w' => e = .returned (.bool (letterB c)) ∧ w = w' := by
  have hu : (c.toNat : Int) < 256 := by have := c.toNat_lt; omega
  have hc : (c.toNat : Int) < 65 ∨ (65 ≤ (c.toNat : Int) ∧ (c.toNat : Int) ≤ 90) ∨ (91 ≤ (c.toNat : Int) ∧ (c.toNat : Int) < 95) ∨ (c.toNat : Int) = 95 ∨ (c.toNat : Int) = 96 ∨ (97 ≤ (c.toNat : Int) ∧ (c.toNat : Int) ≤ 122) ∨ 122 < (c.toNat : Int) := by omega
  have hne : (c.toNat : Int) = 95 ∨ ((c.toNat : Int) == 95) = false := ne_or c 95
  have hcase : ((c.toNat : Int) < 65 ∧ ((c.toNat : Int) == 95) = false) ∨ (65 ≤ (c.toNat : Int) ∧ (c.toNat : Int) ≤ 90) ∨ (91 ≤ (c.toNat : Int) ∧ (c.toNat : Int) ≤ 96 ∧ ((c.toNat : Int) == 95) = false) ∨ (c.toNat : Int) = 95 ∨ (97 ≤ (c.toNat : Int) ∧ (c.toNat : Int) ≤ 122) ∨ (122 < (c.toNat : Int) ∧ ((c.toNat : Int) == 95) = false) := by
    rcases hne with h | h
    · exact .inr (.inr (.inr (.inl h)))
    · have h' : (c.toNat : Int) ≠ 95 := by simpa using h
      by_cases h1 : (c.toNat : Int) < 65
      · exact .inl ⟨h1, h⟩
      · by_cases h2 : (c.toNat : Int) ≤ 90
        · exact .inr (.inl ⟨by omega, h2⟩)
        · by_cases h3 : (c.toNat : Int) ≤ 96
          · exact .inr (.inr (.inl ⟨by omega, h3, h⟩))
          · by_cases h4 : (c.toNat : Int) ≤ 122
            · exact .inr (.inr (.inr (.inr (.inl ⟨by omega, h4⟩))))
            · exact .inr (.inr (.inr (.inr (.inr ⟨by omega, h⟩))))
  clear hne hc
  rcases hcase with ⟨h, h'⟩ | ⟨h, h'⟩ | ⟨h, h', h''⟩ | h | ⟨h, h'⟩ | ⟨h, h'⟩
  · have HB := Lib.hid (letterB_false c (by omega))
    go_enter Tryd.func78, Tryd.ntmps78
    go_wp2_with (go_at_call 63; first | (refine (In_yes _ _ _ _ ?_ ?_).mono ?_; omega; omega; rintro e w' ⟨rfl, rfl⟩) | (refine (In_no _ _ _ _ ?_).mono ?_; omega; rintro e w' ⟨rfl, rfl⟩))
    go_ret
    exact ⟨by rw [HB.out]; first | rfl | (simp; omega), rfl⟩
  · have HB := Lib.hid (letterB_true c (by omega))
    go_enter Tryd.func78, Tryd.ntmps78
    go_wp2_with (go_at_call 63; first | (refine (In_yes _ _ _ _ ?_ ?_).mono ?_; omega; omega; rintro e w' ⟨rfl, rfl⟩) | (refine (In_no _ _ _ _ ?_).mono ?_; omega; rintro e w' ⟨rfl, rfl⟩))
    go_ret
    exact ⟨by rw [HB.out]; first | rfl | (simp; omega), rfl⟩
  · have hn : (c.toNat : Int) ≠ 95 := by simpa using h''
    have HB := Lib.hid (letterB_false c (by omega))
    clear hn
    go_enter Tryd.func78, Tryd.ntmps78
    go_wp2_with (go_at_call 63; first | (refine (In_yes _ _ _ _ ?_ ?_).mono ?_; omega; omega; rintro e w' ⟨rfl, rfl⟩) | (refine (In_no _ _ _ _ ?_).mono ?_; omega; rintro e w' ⟨rfl, rfl⟩))
    go_ret
    exact ⟨by rw [HB.out]; first | rfl | (simp; omega), rfl⟩
  · have HB := Lib.hid (letterB_true c (by omega))
    go_enter Tryd.func78, Tryd.ntmps78
    go_wp2_with (go_at_call 63; first | (refine (In_yes _ _ _ _ ?_ ?_).mono ?_; omega; omega; rintro e w' ⟨rfl, rfl⟩) | (refine (In_no _ _ _ _ ?_).mono ?_; omega; rintro e w' ⟨rfl, rfl⟩))
    go_ret
    exact ⟨by rw [HB.out]; first | rfl | (simp; omega), rfl⟩
  · have HB := Lib.hid (letterB_true c (by omega))
    go_enter Tryd.func78, Tryd.ntmps78
    go_wp2_with (go_at_call 63; first | (refine (In_yes _ _ _ _ ?_ ?_).mono ?_; omega; omega; rintro e w' ⟨rfl, rfl⟩) | (refine (In_no _ _ _ _ ?_).mono ?_; omega; rintro e w' ⟨rfl, rfl⟩))
    go_ret
    exact ⟨by rw [HB.out]; first | rfl | (simp; omega), rfl⟩
  · have HB := Lib.hid (letterB_false c (by omega))
    go_enter Tryd.func78, Tryd.ntmps78
    go_wp2_with (go_at_call 63; first | (refine (In_yes _ _ _ _ ?_ ?_).mono ?_; omega; omega; rintro e w' ⟨rfl, rfl⟩) | (refine (In_no _ _ _ _ ?_).mono ?_; omega; rintro e w' ⟨rfl, rfl⟩))
    go_ret
    exact ⟨by rw [HB.out]; first | rfl | (simp; omega), rfl⟩
set_option maxRecDepth 20000 in
theorem markByte_any (c : UInt8) (w : World) : Calls Tryd.prog 77 #[.int .u8 c.toNat] w fun e w' => e = .returned (.bool (markB c)) ∧ w = w' := by
  have HL := Lib.hid (show markB c = (((c.toNat : Int) == 123) || ((c.toNat : Int) == 125) || ((c.toNat : Int) == 40) || ((c.toNat : Int) == 41) || ((c.toNat : Int) == 91) || ((c.toNat : Int) == 93) || ((c.toNat : Int) == 59) || ((c.toNat : Int) == 44)) by
    unfold markB; rw [Bool.eq_iff_iff]; simp; omega)
  have hc : ∀ n : Int, ((c.toNat : Int) = n) ∨ ((c.toNat : Int) == n) = false := fun n => by
    by_cases h : (c.toNat : Int) = n
    · exact .inl h
    · exact .inr (by simpa using h)
  have HC := Lib.hid hc
  clear hc
  rcases HC.out 123 with h1 | h1
  · go_enter Tryd.func77, Tryd.ntmps77
    go_wp2
    go_ret
    exact ⟨by rw [HL.out]; simp [h1], rfl⟩
  rcases HC.out 125 with h2 | h2
  · go_enter Tryd.func77, Tryd.ntmps77
    go_wp2
    go_ret
    exact ⟨by rw [HL.out]; simp [h2], rfl⟩
  rcases HC.out 40 with h3 | h3
  · go_enter Tryd.func77, Tryd.ntmps77
    go_wp2
    go_ret
    exact ⟨by rw [HL.out]; simp [h3], rfl⟩
  rcases HC.out 41 with h4 | h4
  · go_enter Tryd.func77, Tryd.ntmps77
    go_wp2
    go_ret
    exact ⟨by rw [HL.out]; simp [h4], rfl⟩
  rcases HC.out 91 with h5 | h5
  · go_enter Tryd.func77, Tryd.ntmps77
    go_wp2
    go_ret
    exact ⟨by rw [HL.out]; simp [h5], rfl⟩
  rcases HC.out 93 with h6 | h6
  · go_enter Tryd.func77, Tryd.ntmps77
    go_wp2
    go_ret
    exact ⟨by rw [HL.out]; simp [h6], rfl⟩
  rcases HC.out 59 with h7 | h7
  · go_enter Tryd.func77, Tryd.ntmps77
    go_wp2
    go_ret
    exact ⟨by rw [HL.out]; simp [h7], rfl⟩
  rcases HC.out 44 with h8 | h8
  · go_enter Tryd.func77, Tryd.ntmps77
    go_wp2
    go_ret
    exact ⟨by rw [HL.out]; simp [h8], rfl⟩
  · go_enter Tryd.func77, Tryd.ntmps77
    go_wp2
    go_ret
    exact ⟨by rw [HL.out]; simp only [h1, h2, h3, h4, h5, h6, h7, h8]; rfl, rfl⟩
end Go.Proofs.YthpkjmbdjnelfaaDoor

namespace Go.Proofs.YthpkjmbdjnelfaaDoor
open Go.RowKit
set_option linter.unusedSimpArgs false
set_option linter.unusedVariables false
/-- only block g was written, nothing was made -/
structure Only (g : Nat) (w w' : World) : Prop where
  by_ : w.grownBy w' (some g)
  size : w'.heap.size = w.heap.size
theorem Only.refl (g : Nat) (w : World) : Only g w w := ⟨World.grownBy.refl w _, rfl⟩
theorem Only.drewN {g : Nat} {a w : World} (h : Only g a w) (n : Nat) : Only g a (w.drewN n) := ⟨⟨h.by_.os, h.by_.tape, h.by_.output, h.by_.size, h.by_.block⟩, h.size⟩
theorem Only.setCell {g : Nat} {a w : World} (h : Only g a w) {p : Addr} (hp : p.block = g) (v : Value) : Only g a (w.setCell p v) :=
  ⟨⟨h.by_.os, h.by_.tape, h.by_.output, by simpa [World.setCell] using h.by_.size, fun i hi hne => (Below.heap_setCell w p v i (by rintro rfl; exact hne (by rw [hp]))).trans (h.by_.block i hi hne)⟩, by simpa using h.size⟩
theorem Only.trans {g : Nat} {a b c : World} (h : Only g a b) (k : Only g b c) : Only g a c :=
  ⟨⟨k.by_.os.trans h.by_.os, k.by_.tape.trans h.by_.tape, k.by_.output.trans h.by_.output, Nat.le_trans h.by_.size k.by_.size, fun i hi hne => (k.by_.block i (by rw [h.size]; exact hi) hne).trans (h.by_.block i hi hne)⟩, k.size.trans h.size⟩
theorem Only.below {g B : Nat} {w w' : World} (h : Only g w w') (hB : B ≤ g) (hg : B ≤ w.heap.size) : Below B w w' :=
  ⟨h.by_.os, h.by_.tape, h.by_.output, h.by_.size, fun k hk => h.by_.block k (by omega) (by simp; omega)⟩

/-- how many bytes from i on are so -/
def runN (p : UInt8 → Bool) (s : ByteArray) (i : Nat) : Nat := (((bs s).drop i).takeWhile p).length
theorem runN_le (p : UInt8 → Bool) (s : ByteArray) (i : Nat) : i ≤ s.size → i + runN p s i ≤ s.size := by
  intro h
  unfold runN
  have := (List.takeWhile_prefix p (l := (bs s).drop i)).length_le
  rw [List.length_drop, bs_len] at this
  omega
theorem runN_hit (p : UInt8 → Bool) (s : ByteArray) (i : Nat) (h : i < s.size) (hp : p s[i] = true) : runN p s i = runN p s (i + 1) + 1 := by
  have e : (bs s).drop i = s[i] :: (bs s).drop (i + 1) := by
    rw [List.drop_eq_getElem_cons (by rw [bs_len]; exact h)]
    congr 1
  unfold runN
  rw [e, List.takeWhile_cons, if_pos hp]
  rfl
theorem runN_miss (p : UInt8 → Bool) (s : ByteArray) (i : Nat) (h : i < s.size) (hp : p s[i] = false) : runN p s i = 0 := by
  have e : (bs s).drop i = s[i] :: (bs s).drop (i + 1) := by
    rw [List.drop_eq_getElem_cons (by rw [bs_len]; exact h)]
    congr 1
  unfold runN
  rw [e, List.takeWhile_cons, if_neg (by rw [hp]; decide)]
  rfl
theorem runN_end (p : UInt8 → Bool) (s : ByteArray) : runN p s s.size = 0 := by
  unfold runN
  rw [List.drop_eq_nil_of_le (by rw [bs_len]; exact Nat.le_refl _)]
  rfl

set_option maxRecDepth 20000 in
set_option maxHeartbeats 1000000 in
theorem span_word (g : Nat) (s : ByteArray) (i : Nat) (w : World) (h0 : w.cell? ⟨g, 0, none⟩ = some (.string s)) (h1 : w.cell? ⟨g, 1, none⟩ = some (.int .i64 i)) (hz : w.frozen? ⟨g, 1, none⟩ = false) (hs : s.size ≤ maxLen) (hi : i ≤ s.size) :
    Calls Tryd.prog 108 #[.pointer (some ⟨g, 0, none⟩), .func (.func 128) #[] #[]] w fun e w' =>
      e = .returned (.string (s.extract i (i + runN wordB s i))) ∧ Only g w w' ∧ w'.cell? ⟨g, 0, none⟩ = some (.string s) ∧ w'.cell? ⟨g, 1, none⟩ = some (.int .i64 (i + runN wordB s i : Nat)) ∧ w'.frozen? ⟨g, 1, none⟩ = false := by
  unfold maxLen at hs
  have HR := Lib.hid (runN_le wordB s i hi)
  go_enter Tryd.func108, Tryd.ntmps108
  go_wp2_with fail
  go_loopg [10] (s.size - i) (fun gk x wr => ∃ j : Nat, gk = s.size - j ∧ i ≤ j ∧ j ≤ s.size ∧ i + runN wordB s i = j + runN wordB s j ∧ Only g w wr ∧ wr.cell? ⟨g, 0, none⟩ = some (.string s) ∧ wr.cell? ⟨g, 1, none⟩ = some (.int .i64 j) ∧ wr.frozen? ⟨g, 1, none⟩ = false)
  case atStart => exact ⟨i, rfl, Nat.le_refl _, hi, rfl, Only.refl _ _, h0, h1, hz⟩
  case round =>
    obtain ⟨j, hgk, hij, hj, hn, ho, c0, c1, cz⟩ := hrel
    have HN := Lib.hid hn
    have HG := Lib.hid hgk
    clear hn hgk
    by_cases hlt : j < s.size
    · have i0 : (0 : Int) ≤ (j : Int) := by omega
      have i1 : (j : Int) < s.size := by omega
      have i2 : decide ((j : Int) < (s.size : Int)) = true := by simp; omega
      cases hp : wordB s[j]
      · have HP := Lib.hid hp
        have hc := fun wx => word1_any s[j] wx
        rw [hp] at hc
        have HC := Lib.hid hc
        clear hc hp
        have HE := Lib.hid (show i + runN wordB s i = j by rw [HN.out, runN_miss wordB s j hlt HP.out]; rfl)
        go_wp2_with fail
        go_quiet ((go_at_call 128; exact Calls.quiet_of_same (Calls.mono (HC.out _) (fun _ _ ⟨h1, h2⟩ => ⟨h1, h2.symm⟩))))
        go_wp2_with fail
        go_quiet (fail)
        go_wp2_with fail
        go_ret
        rw [HE.out]
        exact ⟨rfl, (ho.drewN _).drewN _, c0, c1, cz⟩
      · have HP := Lib.hid hp
        have hc := fun wx => word1_any s[j] wx
        rw [hp] at hc
        have HC := Lib.hid hc
        clear hc hp
        go_wp2_with fail
        go_quiet ((go_at_call 128; exact Calls.quiet_of_same (Calls.mono (HC.out _) (fun _ _ ⟨h1, h2⟩ => ⟨h1, h2.symm⟩))))
        go_wp2_with fail
        go_roundg (s.size - (j + 1))
        case measure => rw [HG.out]; omega
        case rel =>
          refine ⟨j + 1, rfl, by omega, by omega, by rw [HN.out, runN_hit wordB s j hlt HP.out]; omega, ?_, ?_, ?_, ?_⟩
          · exact (ho.drewN _).setCell rfl _
          · exact (World.cell?_setCell_other _ _ _ _ (by intro h; injection h with _ h2; cases h2)).trans c0
          · exact World.cell?_setCell_same _ _ _ c1
          · exact (World.frozen?_setCell _ _ _ _).trans cz
    · have i1 : (s.size : Int) ≤ j := by omega
      have i2 : decide ((j : Int) < (s.size : Int)) = false := by simp; omega
      have hjs : j = s.size := by omega
      have i3 : (j : Int) ≤ s.size := by omega
      have HE := Lib.hid (show i + runN wordB s i = j by rw [HN.out, hjs, runN_end]; rfl)
      clear hjs
      go_wp2_with fail
      go_quiet (fail)
      go_wp2_with fail
      go_quiet (fail)
      go_wp2_with fail
      go_ret
      rw [HE.out]
      exact ⟨rfl, (ho.drewN _).drewN _, c0, c1, cz⟩

set_option maxRecDepth 20000 in
theorem word_any (g : Nat) (s : ByteArray) (i : Nat) (w : World) (h0 : w.cell? ⟨g, 0, none⟩ = some (.string s)) (h1 : w.cell? ⟨g, 1, none⟩ = some (.int .i64 i)) (hz : w.frozen? ⟨g, 1, none⟩ = false) (hs : s.size ≤ maxLen) (hi : i ≤ s.size) :
    Calls Tryd.prog 72 #[.pointer (some ⟨g, 0, none⟩)] w fun e w' =>
      e = .returned (.string (s.extract i (i + runN wordB s i))) ∧ Only g w w' ∧ w'.cell? ⟨g, 0, none⟩ = some (.string s) ∧ w'.cell? ⟨g, 1, none⟩ = some (.int .i64 (i + runN wordB s i : Nat)) ∧ w'.frozen? ⟨g, 1, none⟩ = false := by
  have HW := Lib.hid (fun w1 (e : w = w1) => show Calls Tryd.prog _ _ w1 _ from e ▸ span_word g s i w h0 h1 hz hs hi)
  clear h0 h1 hz
  go_enter Tryd.func72, Tryd.ntmps72
  go_wp2_with fail
  refine Calls.mono (HW.out w rfl) ?_
  rintro e w1 ⟨rfl, k1, k2, k3, k4⟩
  have HK := Lib.hid (And.intro k1 (And.intro k2 (And.intro k3 k4)))
  clear k1 k2 k3 k4
  go_wp2_with fail
  go_ret
  exact ⟨rfl, HK.out⟩
end Go.Proofs.YthpkjmbdjnelfaaDoor

namespace Go.Proofs.YthpkjmbdjnelfaaDoor
open Go.RowKit
set_option linter.unusedSimpArgs false
set_option linter.unusedVariables false
set_option maxRecDepth 20000 in
set_option maxHeartbeats 1000000 in
theorem wordEnd_any (s : ByteArray) (i : Nat) (w : World) (hs : s.size ≤ maxLen) (hi : i ≤ s.size) :
    Calls Tryd.prog 79 #[.string s, .int .i64 i] w fun e w' => e = .returned (.int .i64 (i + runN wordB s i : Nat)) ∧ w = w' := by
  unfold maxLen at hs
  go_enter Tryd.func79, Tryd.ntmps79
  go_wp2_with fail
  go_loopw [1] (fun x wr => ∃ j : Nat, i ≤ j ∧ j ≤ s.size ∧ i + runN wordB s i = j + runN wordB s j ∧ x = .int .i64 j ∧ w = wr) (fun x _ => s.size - (intOf x).toNat)
  case atStart => exact ⟨i, Nat.le_refl _, hi, rfl, rfl, rfl⟩
  case round =>
    obtain ⟨j, hij, hj, hn, rfl, rfl⟩ := hrel
    have HN := Lib.hid hn
    clear hn
    by_cases hlt : j < s.size
    · have i0 : (0 : Int) ≤ (j : Int) := by omega
      have i1 : (j : Int) < s.size := by omega
      have i2 : decide ((j : Int) < (s.size : Int)) = true := by simp; omega
      cases hl : letterB s[j]
      · cases hd : digitB s[j]
        · have HP := Lib.hid (show wordB s[j] = false by unfold wordB; rw [hl, hd]; rfl)
          have hc := fun wx => letterByte_any s[j] wx
          have hc2 := fun wx => digitByte_any s[j] wx
          rw [hl] at hc
          rw [hd] at hc2
          have HC := Lib.hid hc
          have HD := Lib.hid hc2
          clear hc hc2 hl hd
          have HE := Lib.hid (show i + runN wordB s i = j by rw [HN.out, runN_miss wordB s j hlt HP.out]; rfl)
          go_wp2_with (first | (go_at_call 78; refine (HC.out _).mono ?_; rintro e w' ⟨rfl, rfl⟩) | (go_at_call 118; refine (HD.out _).mono ?_; rintro e w' ⟨rfl, rfl⟩))
          go_ret
          rw [HE.out]
          exact ⟨rfl, rfl⟩
        · have HP := Lib.hid (show wordB s[j] = true by unfold wordB; rw [hl, hd]; rfl)
          have hc := fun wx => letterByte_any s[j] wx
          have hc2 := fun wx => digitByte_any s[j] wx
          rw [hl] at hc
          rw [hd] at hc2
          have HC := Lib.hid hc
          have HD := Lib.hid hc2
          clear hc hc2 hl hd
          go_wp2_with (first | (go_at_call 78; refine (HC.out _).mono ?_; rintro e w' ⟨rfl, rfl⟩) | (go_at_call 118; refine (HD.out _).mono ?_; rintro e w' ⟨rfl, rfl⟩))
          go_roundw
          case measure => simp [intOf]; omega
          case rel => exact ⟨j + 1, by omega, by omega, by rw [HN.out, runN_hit wordB s j hlt HP.out]; omega, by first | rfl | go_num, by first | rfl | trivial⟩
      · have HP := Lib.hid (show wordB s[j] = true by unfold wordB; rw [hl]; rfl)
        have hc := fun wx => letterByte_any s[j] wx
        rw [hl] at hc
        have HC := Lib.hid hc
        clear hc hl
        go_wp2_with (go_at_call 78; refine (HC.out _).mono ?_; rintro e w' ⟨rfl, rfl⟩)
        go_roundw
        case measure => simp [intOf]; omega
        case rel => exact ⟨j + 1, by omega, by omega, by rw [HN.out, runN_hit wordB s j hlt HP.out]; omega, by first | rfl | go_num, by first | rfl | trivial⟩
    · have i1 : (s.size : Int) ≤ j := by omega
      have i2 : decide ((j : Int) < (s.size : Int)) = false := by simp; omega
      have hjs : j = s.size := by omega
      have HE := Lib.hid (show i + runN wordB s i = j by rw [HN.out, hjs, runN_end]; rfl)
      clear hjs
      go_wp2_with fail
      go_ret
      rw [HE.out]
      exact ⟨rfl, rfl⟩
end Go.Proofs.YthpkjmbdjnelfaaDoor

namespace Go.Proofs.YthpkjmbdjnelfaaDoor
open Go.RowKit
set_option linter.unusedSimpArgs false
set_option linter.unusedVariables false
/-- what P4.6 says -/
def faultOf (k : Int) (t : ByteArray) (n : Int) : Int :=
  if k < 1 ∨ 5 < k then 2
  else if k = 3 then (if n < 0 ∨ 2147483647 < n then 6 else if 0 < t.size then 3 else 0)
  else if n ≠ 0 then 3
  else if k = 5 then (if h : t.size = 1 then (if markB t[0] then 0 else 3) else 3)
  else if k = 4 then 0
  else (if h : 0 < t.size then (if letterB t[0] ∧ runN wordB t 0 = t.size then 0 else 3) else 3)

theorem fault_word (k : Int) (t : ByteArray) (h : k = 1 ∨ k = 2) (hz : 0 < t.size) : faultOf k t 0 = if letterB t[0] ∧ runN wordB t 0 = t.size then 0 else 3 := by
  unfold faultOf
  rw [if_neg (by omega), if_neg (by omega), if_neg (by omega), if_neg (by omega), if_neg (by omega), dif_pos hz]

def FaultIs (k : Int) (t : ByteArray) (n : Int) (w : World) (e : Ending) (w' : World) : Prop := e = .returned (.int .i64 (faultOf k t n)) ∧ Below w.heap.size w w'

set_option maxRecDepth 20000 in
set_option maxHeartbeats 1000000 in
theorem tokenFault_any (k : Int) (t : ByteArray) (n : Int) (w : World) (hs : t.size ≤ maxLen) :
    Calls Tryd.prog 40 #[.agg #[.int .i64 k, .string t, .int .i64 n]] w (FaultIs k t n w) := by
  have hs' := hs
  unfold maxLen at hs'
  by_cases hin : k < 1 ∨ 5 < k
  · have HF := Lib.hid (show faultOf k t n = 2 by unfold faultOf; rw [if_pos hin])
    go_enter Tryd.func40, Tryd.ntmps40
    go_wp2_with (go_at_call 63; refine (In_no _ _ _ _ (by omega)).mono ?_; rintro e w' ⟨rfl, rfl⟩)
    go_ret
    refine ⟨by rw [HF.out]; rfl, ?_⟩
    (repeat (first | with_reducible exact Below.refl _ _ | with_reducible refine Below.setCell ?_ ?_ _ | with_reducible refine Below.alloc ?_ ?_ _ | with_reducible refine Below.drew ?_ | with_reducible refine below_drewN ?_ _))
    all_goals (first | omega | (simp; done) | (simp; omega) | (dsimp only [World.drew] at *; omega))
  by_cases h3 : k = 3
  · subst h3
    by_cases hn : n < 0 ∨ 2147483647 < n
    · have HF := Lib.hid (show faultOf 3 t n = 6 by unfold faultOf; rw [if_neg hin, if_pos rfl, if_pos hn])
      go_enter Tryd.func40, Tryd.ntmps40
      go_wp2_with (first | (go_at_call 63; refine (In_no _ _ _ _ (by omega)).mono ?_; rintro e w' ⟨rfl, rfl⟩) | (go_at_call 63; refine (In_yes _ _ _ _ (by omega) (by omega)).mono ?_; rintro e w' ⟨rfl, rfl⟩))
      go_ret
      refine ⟨by rw [HF.out]; rfl, ?_⟩
      (repeat (first | with_reducible exact Below.refl _ _ | with_reducible refine Below.setCell ?_ ?_ _ | with_reducible refine Below.alloc ?_ ?_ _ | with_reducible refine Below.drew ?_ | with_reducible refine below_drewN ?_ _))
      all_goals (first | omega | (simp; done) | (simp; omega) | (dsimp only [World.drew] at *; omega))
    by_cases hz : 0 < t.size
    · have HF := Lib.hid (show faultOf 3 t n = 3 by unfold faultOf; rw [if_neg hin, if_pos rfl, if_neg hn, if_pos hz])
      have i1 : (0 : Int) < t.size := by omega
      go_enter Tryd.func40, Tryd.ntmps40
      go_wp2_with (first | (go_at_call 63; refine (In_yes _ _ _ _ (by omega) (by omega)).mono ?_; rintro e w' ⟨rfl, rfl⟩))
      go_ret
      refine ⟨by rw [HF.out]; rfl, ?_⟩
      (repeat (first | with_reducible exact Below.refl _ _ | with_reducible refine Below.setCell ?_ ?_ _ | with_reducible refine Below.alloc ?_ ?_ _ | with_reducible refine Below.drew ?_ | with_reducible refine below_drewN ?_ _))
      all_goals (first | omega | (simp; done) | (simp; omega) | (dsimp only [World.drew] at *; omega))
    · have HF := Lib.hid (show faultOf 3 t n = 0 by unfold faultOf; rw [if_neg hin, if_pos rfl, if_neg hn, if_neg hz])
      have i1 : ((t.size : Nat) : Int) = 0 := by omega
      go_enter Tryd.func40, Tryd.ntmps40
      go_wp2_with (first | (go_at_call 63; refine (In_yes _ _ _ _ (by omega) (by omega)).mono ?_; rintro e w' ⟨rfl, rfl⟩))
      go_ret
      refine ⟨by rw [HF.out]; rfl, ?_⟩
      (repeat (first | with_reducible exact Below.refl _ _ | with_reducible refine Below.setCell ?_ ?_ _ | with_reducible refine Below.alloc ?_ ?_ _ | with_reducible refine Below.drew ?_ | with_reducible refine below_drewN ?_ _))
      all_goals (first | omega | (simp; done) | (simp; omega) | (dsimp only [World.drew] at *; omega))
  by_cases h5 : k = 5
  · subst h5
    by_cases hn : n = 0
    · subst hn
      by_cases hz : t.size = 1
      · have i1 : ((t.size : Nat) : Int) = 1 := by omega
        have i2 : (0 : Int) < t.size := by omega
        cases hm : markB (t[0]'(by omega))
        · have HF := Lib.hid (show faultOf 5 t 0 = 3 by unfold faultOf; rw [if_neg hin, if_neg h3, if_neg (by omega), if_pos rfl, dif_pos hz, hm]; rfl)
          have hc := fun wx => markByte_any (t[0]'(by omega)) wx
          rw [hm] at hc
          have HC := Lib.hid hc
          clear hc hm
          go_enter Tryd.func40, Tryd.ntmps40
          go_wp2_with (first | (go_at_call 63; refine (In_yes _ _ _ _ (by omega) (by omega)).mono ?_; rintro e w' ⟨rfl, rfl⟩) | (go_at_call 77; refine (HC.out _).mono ?_; rintro e w' ⟨rfl, rfl⟩))
          go_ret
          refine ⟨by rw [HF.out]; rfl, ?_⟩
          (repeat (first | with_reducible exact Below.refl _ _ | with_reducible refine Below.setCell ?_ ?_ _ | with_reducible refine Below.alloc ?_ ?_ _ | with_reducible refine Below.drew ?_ | with_reducible refine below_drewN ?_ _))
          all_goals (first | omega | (simp; done) | (simp; omega) | (dsimp only [World.drew] at *; omega))
        · have HF := Lib.hid (show faultOf 5 t 0 = 0 by unfold faultOf; rw [if_neg hin, if_neg h3, if_neg (by omega), if_pos rfl, dif_pos hz, hm]; rfl)
          have hc := fun wx => markByte_any (t[0]'(by omega)) wx
          rw [hm] at hc
          have HC := Lib.hid hc
          clear hc hm
          go_enter Tryd.func40, Tryd.ntmps40
          go_wp2_with (first | (go_at_call 63; refine (In_yes _ _ _ _ (by omega) (by omega)).mono ?_; rintro e w' ⟨rfl, rfl⟩) | (go_at_call 77; refine (HC.out _).mono ?_; rintro e w' ⟨rfl, rfl⟩))
          go_ret
          refine ⟨by rw [HF.out]; rfl, ?_⟩
          (repeat (first | with_reducible exact Below.refl _ _ | with_reducible refine Below.setCell ?_ ?_ _ | with_reducible refine Below.alloc ?_ ?_ _ | with_reducible refine Below.drew ?_ | with_reducible refine below_drewN ?_ _))
          all_goals (first | omega | (simp; done) | (simp; omega) | (dsimp only [World.drew] at *; omega))
      · have i1 : (((t.size : Nat) : Int) == 1) = false := beq_false_of_ne (by omega)
        have HF := Lib.hid (show faultOf 5 t 0 = 3 by unfold faultOf; rw [if_neg hin, if_neg h3, if_neg (by omega), if_pos rfl, dif_neg hz])
        clear hz
        go_enter Tryd.func40, Tryd.ntmps40
        go_wp2_with (first | (go_at_call 63; refine (In_yes _ _ _ _ (by omega) (by omega)).mono ?_; rintro e w' ⟨rfl, rfl⟩))
        go_ret
        refine ⟨by rw [HF.out]; rfl, ?_⟩
        (repeat (first | with_reducible exact Below.refl _ _ | with_reducible refine Below.setCell ?_ ?_ _ | with_reducible refine Below.alloc ?_ ?_ _ | with_reducible refine Below.drew ?_ | with_reducible refine below_drewN ?_ _))
        all_goals (first | omega | (simp; done) | (simp; omega) | (dsimp only [World.drew] at *; omega))
    · have i1 : (n == 0) = false := by simpa using hn
      have HF := Lib.hid (show faultOf 5 t n = 3 by unfold faultOf; rw [if_neg hin, if_neg h3, if_pos hn])
      clear hn
      go_enter Tryd.func40, Tryd.ntmps40
      go_wp2_with (first | (go_at_call 63; refine (In_yes _ _ _ _ (by omega) (by omega)).mono ?_; rintro e w' ⟨rfl, rfl⟩))
      go_ret
      refine ⟨by rw [HF.out]; rfl, ?_⟩
      (repeat (first | with_reducible exact Below.refl _ _ | with_reducible refine Below.setCell ?_ ?_ _ | with_reducible refine Below.alloc ?_ ?_ _ | with_reducible refine Below.drew ?_ | with_reducible refine below_drewN ?_ _))
      all_goals (first | omega | (simp; done) | (simp; omega) | (dsimp only [World.drew] at *; omega))
  by_cases h4 : k = 4
  · subst h4
    by_cases hn : n = 0
    · subst hn
      have HF := Lib.hid (show faultOf 4 t 0 = 0 by unfold faultOf; rw [if_neg hin, if_neg h3, if_neg (by omega), if_neg h5, if_pos rfl])
      go_enter Tryd.func40, Tryd.ntmps40
      go_wp2_with (first | (go_at_call 63; refine (In_yes _ _ _ _ (by omega) (by omega)).mono ?_; rintro e w' ⟨rfl, rfl⟩))
      go_ret
      refine ⟨by rw [HF.out]; rfl, ?_⟩
      (repeat (first | with_reducible exact Below.refl _ _ | with_reducible refine Below.setCell ?_ ?_ _ | with_reducible refine Below.alloc ?_ ?_ _ | with_reducible refine Below.drew ?_ | with_reducible refine below_drewN ?_ _))
      all_goals (first | omega | (simp; done) | (simp; omega) | (dsimp only [World.drew] at *; omega))
    · have i1 : (n == 0) = false := by simpa using hn
      have HF := Lib.hid (show faultOf 4 t n = 3 by unfold faultOf; rw [if_neg hin, if_neg h3, if_pos hn])
      clear hn
      go_enter Tryd.func40, Tryd.ntmps40
      go_wp2_with (first | (go_at_call 63; refine (In_yes _ _ _ _ (by omega) (by omega)).mono ?_; rintro e w' ⟨rfl, rfl⟩))
      go_ret
      refine ⟨by rw [HF.out]; rfl, ?_⟩
      (repeat (first | with_reducible exact Below.refl _ _ | with_reducible refine Below.setCell ?_ ?_ _ | with_reducible refine Below.alloc ?_ ?_ _ | with_reducible refine Below.drew ?_ | with_reducible refine below_drewN ?_ _))
      all_goals (first | omega | (simp; done) | (simp; omega) | (dsimp only [World.drew] at *; omega))
  by_cases h1 : k = 1
  · subst h1
    by_cases hn : n = 0
    · subst hn
      by_cases hz : 0 < t.size
      · have i2 : (0 : Int) < t.size := by omega
        cases hm : letterB (t[0]'hz)
        · have HF := Lib.hid (show faultOf 1 t 0 = 3 by rw [fault_word 1 t (by omega) hz, hm]; rfl)
          have hc := fun wx => letterByte_any (t[0]'hz) wx
          rw [hm] at hc
          have HC := Lib.hid hc
          clear hc hm
          go_enter Tryd.func40, Tryd.ntmps40
          go_wp2_with (first | (go_at_call 63; refine (In_yes _ _ _ _ (by omega) (by omega)).mono ?_; rintro e w' ⟨rfl, rfl⟩))
          go_quiet (first | (go_at_call 78; exact Calls.quiet_of_same (Calls.mono (HC.out _) (fun _ _ ⟨h1, h2⟩ => ⟨h1, h2.symm⟩))))
          go_wp2_with fail
          go_ret
          refine ⟨by rw [HF.out]; rfl, ?_⟩
          (repeat (first | with_reducible exact Below.refl _ _ | with_reducible refine Below.setCell ?_ ?_ _ | with_reducible refine Below.alloc ?_ ?_ _ | with_reducible refine Below.drew ?_ | with_reducible refine below_drewN ?_ _))
          all_goals (first | omega | (simp; done) | (simp; omega) | (dsimp only [World.drew] at *; omega))
        · have hc := fun wx => letterByte_any (t[0]'hz) wx
          have hd := fun wx => wordEnd_any t 0 wx hs (by omega)
          rw [hm] at hc
          have HC := Lib.hid hc
          clear hc
          by_cases hr : runN wordB t 0 = t.size
          · have HF := Lib.hid (show faultOf 1 t 0 = 0 by rw [fault_word 1 t (by omega) hz, if_pos ⟨hm, hr⟩])
            rw [hr, Nat.zero_add] at hd
            have HD := Lib.hid hd
            clear hd hm hr
            go_enter Tryd.func40, Tryd.ntmps40
            go_wp2_with (first | (go_at_call 63; refine (In_yes _ _ _ _ (by omega) (by omega)).mono ?_; rintro e w' ⟨rfl, rfl⟩))
            go_quiet (first | (go_at_call 78; exact Calls.quiet_of_same (Calls.mono (HC.out _) (fun _ _ ⟨h1, h2⟩ => ⟨h1, h2.symm⟩))) | (go_at_call 79; exact Calls.quiet_of_same (Calls.mono (HD.out _) (fun _ _ ⟨h1, h2⟩ => ⟨h1, h2.symm⟩))))
            go_wp2_with fail
            go_ret
            refine ⟨by rw [HF.out]; rfl, ?_⟩
            (repeat (first | with_reducible exact Below.refl _ _ | with_reducible refine Below.setCell ?_ ?_ _ | with_reducible refine Below.alloc ?_ ?_ _ | with_reducible refine Below.drew ?_ | with_reducible refine below_drewN ?_ _))
            all_goals (first | omega | (simp; done) | (simp; omega) | (dsimp only [World.drew] at *; omega))
          · have HF := Lib.hid (show faultOf 1 t 0 = 3 by rw [fault_word 1 t (by omega) hz, if_neg (fun h => hr h.2)])
            rw [Nat.zero_add] at hd
            obtain ⟨r, hr'⟩ : ∃ r : Nat, r = runN wordB t 0 := ⟨_, rfl⟩
            rw [← hr'] at hd hr
            have i3 : (((r : Nat) : Int) == t.size) = false := by simp; omega
            have HD := Lib.hid hd
            clear hd hm hr hr'
            go_enter Tryd.func40, Tryd.ntmps40
            go_wp2_with (first | (go_at_call 63; refine (In_yes _ _ _ _ (by omega) (by omega)).mono ?_; rintro e w' ⟨rfl, rfl⟩))
            go_quiet (first | (go_at_call 78; exact Calls.quiet_of_same (Calls.mono (HC.out _) (fun _ _ ⟨h1, h2⟩ => ⟨h1, h2.symm⟩))) | (go_at_call 79; exact Calls.quiet_of_same (Calls.mono (HD.out _) (fun _ _ ⟨h1, h2⟩ => ⟨h1, h2.symm⟩))))
            go_wp2_with fail
            go_ret
            refine ⟨by rw [HF.out]; rfl, ?_⟩
            (repeat (first | with_reducible exact Below.refl _ _ | with_reducible refine Below.setCell ?_ ?_ _ | with_reducible refine Below.alloc ?_ ?_ _ | with_reducible refine Below.drew ?_ | with_reducible refine below_drewN ?_ _))
            all_goals (first | omega | (simp; done) | (simp; omega) | (dsimp only [World.drew] at *; omega))
      · have i1 : (t.size : Int) ≤ 0 := by omega
        have i4 : ((t.size : Nat) : Int) = 0 := by omega
        have HF := Lib.hid (show faultOf 1 t 0 = 3 by unfold faultOf; rw [if_neg hin, if_neg h3, if_neg (by omega), if_neg h5, if_neg h4, dif_neg hz])
        clear hz
        go_enter Tryd.func40, Tryd.ntmps40
        go_wp2_with (first | (go_at_call 63; refine (In_yes _ _ _ _ (by omega) (by omega)).mono ?_; rintro e w' ⟨rfl, rfl⟩))
        go_quiet (fail)
        go_wp2_with fail
        go_ret
        refine ⟨by rw [HF.out]; rfl, ?_⟩
        (repeat (first | with_reducible exact Below.refl _ _ | with_reducible refine Below.setCell ?_ ?_ _ | with_reducible refine Below.alloc ?_ ?_ _ | with_reducible refine Below.drew ?_ | with_reducible refine below_drewN ?_ _))
        all_goals (first | omega | (simp; done) | (simp; omega) | (dsimp only [World.drew] at *; omega))
    · have i1 : (n == 0) = false := by simpa using hn
      have HF := Lib.hid (show faultOf 1 t n = 3 by unfold faultOf; rw [if_neg hin, if_neg h3, if_pos hn])
      clear hn
      go_enter Tryd.func40, Tryd.ntmps40
      go_wp2_with (first | (go_at_call 63; refine (In_yes _ _ _ _ (by omega) (by omega)).mono ?_; rintro e w' ⟨rfl, rfl⟩))
      go_quiet (fail)
      go_wp2_with fail
      go_ret
      refine ⟨by rw [HF.out]; rfl, ?_⟩
      (repeat (first | with_reducible exact Below.refl _ _ | with_reducible refine Below.setCell ?_ ?_ _ | with_reducible refine Below.alloc ?_ ?_ _ | with_reducible refine Below.drew ?_ | with_reducible refine below_drewN ?_ _))
      all_goals (first | omega | (simp; done) | (simp; omega) | (dsimp only [World.drew] at *; omega))
  by_cases h2 : k = 2
  · subst h2
    by_cases hn : n = 0
    · subst hn
      by_cases hz : 0 < t.size
      · have i2 : (0 : Int) < t.size := by omega
        cases hm : letterB (t[0]'hz)
        · have HF := Lib.hid (show faultOf 2 t 0 = 3 by rw [fault_word 2 t (by omega) hz, hm]; rfl)
          have hc := fun wx => letterByte_any (t[0]'hz) wx
          rw [hm] at hc
          have HC := Lib.hid hc
          clear hc hm
          go_enter Tryd.func40, Tryd.ntmps40
          go_wp2_with (first | (go_at_call 63; refine (In_yes _ _ _ _ (by omega) (by omega)).mono ?_; rintro e w' ⟨rfl, rfl⟩))
          go_quiet (first | (go_at_call 78; exact Calls.quiet_of_same (Calls.mono (HC.out _) (fun _ _ ⟨h1, h2⟩ => ⟨h1, h2.symm⟩))))
          go_wp2_with fail
          go_ret
          refine ⟨by rw [HF.out]; rfl, ?_⟩
          (repeat (first | with_reducible exact Below.refl _ _ | with_reducible refine Below.setCell ?_ ?_ _ | with_reducible refine Below.alloc ?_ ?_ _ | with_reducible refine Below.drew ?_ | with_reducible refine below_drewN ?_ _))
          all_goals (first | omega | (simp; done) | (simp; omega) | (dsimp only [World.drew] at *; omega))
        · have hc := fun wx => letterByte_any (t[0]'hz) wx
          have hd := fun wx => wordEnd_any t 0 wx hs (by omega)
          rw [hm] at hc
          have HC := Lib.hid hc
          clear hc
          by_cases hr : runN wordB t 0 = t.size
          · have HF := Lib.hid (show faultOf 2 t 0 = 0 by rw [fault_word 2 t (by omega) hz, if_pos ⟨hm, hr⟩])
            rw [hr, Nat.zero_add] at hd
            have HD := Lib.hid hd
            clear hd hm hr
            go_enter Tryd.func40, Tryd.ntmps40
            go_wp2_with (first | (go_at_call 63; refine (In_yes _ _ _ _ (by omega) (by omega)).mono ?_; rintro e w' ⟨rfl, rfl⟩))
            go_quiet (first | (go_at_call 78; exact Calls.quiet_of_same (Calls.mono (HC.out _) (fun _ _ ⟨h1, h2⟩ => ⟨h1, h2.symm⟩))) | (go_at_call 79; exact Calls.quiet_of_same (Calls.mono (HD.out _) (fun _ _ ⟨h1, h2⟩ => ⟨h1, h2.symm⟩))))
            go_wp2_with fail
            go_ret
            refine ⟨by rw [HF.out]; rfl, ?_⟩
            (repeat (first | with_reducible exact Below.refl _ _ | with_reducible refine Below.setCell ?_ ?_ _ | with_reducible refine Below.alloc ?_ ?_ _ | with_reducible refine Below.drew ?_ | with_reducible refine below_drewN ?_ _))
            all_goals (first | omega | (simp; done) | (simp; omega) | (dsimp only [World.drew] at *; omega))
          · have HF := Lib.hid (show faultOf 2 t 0 = 3 by rw [fault_word 2 t (by omega) hz, if_neg (fun h => hr h.2)])
            rw [Nat.zero_add] at hd
            obtain ⟨r, hr'⟩ : ∃ r : Nat, r = runN wordB t 0 := ⟨_, rfl⟩
            rw [← hr'] at hd hr
            have i3 : (((r : Nat) : Int) == t.size) = false := by simp; omega
            have HD := Lib.hid hd
            clear hd hm hr hr'
            go_enter Tryd.func40, Tryd.ntmps40
            go_wp2_with (first | (go_at_call 63; refine (In_yes _ _ _ _ (by omega) (by omega)).mono ?_; rintro e w' ⟨rfl, rfl⟩))
            go_quiet (first | (go_at_call 78; exact Calls.quiet_of_same (Calls.mono (HC.out _) (fun _ _ ⟨h1, h2⟩ => ⟨h1, h2.symm⟩))) | (go_at_call 79; exact Calls.quiet_of_same (Calls.mono (HD.out _) (fun _ _ ⟨h1, h2⟩ => ⟨h1, h2.symm⟩))))
            go_wp2_with fail
            go_ret
            refine ⟨by rw [HF.out]; rfl, ?_⟩
            (repeat (first | with_reducible exact Below.refl _ _ | with_reducible refine Below.setCell ?_ ?_ _ | with_reducible refine Below.alloc ?_ ?_ _ | with_reducible refine Below.drew ?_ | with_reducible refine below_drewN ?_ _))
            all_goals (first | omega | (simp; done) | (simp; omega) | (dsimp only [World.drew] at *; omega))
      · have i1 : (t.size : Int) ≤ 0 := by omega
        have i4 : ((t.size : Nat) : Int) = 0 := by omega
        have HF := Lib.hid (show faultOf 2 t 0 = 3 by unfold faultOf; rw [if_neg hin, if_neg h3, if_neg (by omega), if_neg h5, if_neg h4, dif_neg hz])
        clear hz
        go_enter Tryd.func40, Tryd.ntmps40
        go_wp2_with (first | (go_at_call 63; refine (In_yes _ _ _ _ (by omega) (by omega)).mono ?_; rintro e w' ⟨rfl, rfl⟩))
        go_quiet (fail)
        go_wp2_with fail
        go_ret
        refine ⟨by rw [HF.out]; rfl, ?_⟩
        (repeat (first | with_reducible exact Below.refl _ _ | with_reducible refine Below.setCell ?_ ?_ _ | with_reducible refine Below.alloc ?_ ?_ _ | with_reducible refine Below.drew ?_ | with_reducible refine below_drewN ?_ _))
        all_goals (first | omega | (simp; done) | (simp; omega) | (dsimp only [World.drew] at *; omega))
    · have i1 : (n == 0) = false := by simpa using hn
      have HF := Lib.hid (show faultOf 2 t n = 3 by unfold faultOf; rw [if_neg hin, if_neg h3, if_pos hn])
      clear hn
      go_enter Tryd.func40, Tryd.ntmps40
      go_wp2_with (first | (go_at_call 63; refine (In_yes _ _ _ _ (by omega) (by omega)).mono ?_; rintro e w' ⟨rfl, rfl⟩))
      go_quiet (fail)
      go_wp2_with fail
      go_ret
      refine ⟨by rw [HF.out]; rfl, ?_⟩
      (repeat (first | with_reducible exact Below.refl _ _ | with_reducible refine Below.setCell ?_ ?_ _ | with_reducible refine Below.alloc ?_ ?_ _ | with_reducible refine Below.drew ?_ | with_reducible refine below_drewN ?_ _))
      all_goals (first | omega | (simp; done) | (simp; omega) | (dsimp only [World.drew] at *; omega))
  exfalso
  omega
end Go.Proofs.YthpkjmbdjnelfaaDoor

namespace Go.Proofs.YthpkjmbdjnelfaaDoor
open Go.RowKit
set_option linter.unusedSimpArgs false
set_option linter.unusedVariables false
theorem word_check (g : Nat) (s : ByteArray) (w : World) (h0 : w.cell? ⟨g, 0, none⟩ = some (.string s)) (h1 : w.cell? ⟨g, 1, none⟩ = some (.int .i64 0)) (hz : w.frozen? ⟨g, 1, none⟩ = false) (hs : s.size ≤ maxLen) (hg : g ≤ w.heap.size) :
    Calls Tryd.prog 72 #[.pointer (some ⟨g, 0, none⟩)] w fun e w' => e = .returned (.string (s.extract 0 (runN wordB s 0))) ∧ Below g w w' :=
  (word_any g s 0 w h0 h1 hz hs (Nat.zero_le _)).mono fun _ _ ⟨h, k, _⟩ => ⟨by rw [h, Nat.zero_add], k.below (Nat.le_refl _) hg⟩
theorem run_text (s : ByteArray) (h : runN wordB s 0 = s.size) : s.extract 0 (runN wordB s 0) = s := by
  rw [h]
  exact ByteArray.extract_zero_size
theorem run_other (s : ByteArray) (h : runN wordB s 0 ≠ s.size) : ((s.extract 0 (runN wordB s 0)).toList == s.toList) = false := by
  have hle := runN_le wordB s 0 (Nat.zero_le _)
  refine text_ne fun he => ?_
  have := congrArg ByteArray.size he
  rw [ByteArray.size_extract] at this
  omega
theorem fault_mark_no (t : ByteArray) (n : Int) (h : ∀ hz : t.size = 1, markB t[0] = false) : faultOf 5 t n = 3 := by
  unfold faultOf
  rw [if_neg (by omega), if_neg (by decide)]
  by_cases hn : n ≠ 0
  · rw [if_pos hn]
  · rw [if_neg hn, if_pos rfl]
    by_cases hz : t.size = 1
    · rw [dif_pos hz, if_neg (by rw [h hz]; decide)]
    · rw [dif_neg hz]
theorem fault_word_no (k : Int) (t : ByteArray) (n : Int) (hk : k = 1 ∨ k = 2) (h : ∀ hz : 0 < t.size, ¬ (letterB t[0] = true ∧ runN wordB t 0 = t.size)) : faultOf k t n = 3 := by
  unfold faultOf
  rw [if_neg (by omega), if_neg (by omega)]
  by_cases hn : n ≠ 0
  · rw [if_pos hn]
  · rw [if_neg hn, if_neg (by omega), if_neg (by omega)]
    by_cases hz : 0 < t.size
    · rw [dif_pos hz, if_neg (h hz)]
    · rw [dif_neg hz]
theorem one_byte (t : ByteArray) (h : t.size = 1) : t = ⟨#[t[0]]⟩ := by
  apply bs_inj
  have hl : (bs t).length = 1 := by rw [bs_len]; exact h
  match hb : bs t, hl with
  | [c], _ =>
    have : t[0] = c := by
      have e : (bs t)[0]? = some t[0] := by rw [List.getElem?_eq_getElem (by rw [bs_len]; omega)]; rfl
      rw [hb] at e
      exact (Option.some.inj e).symm
    rw [this]
    rfl
theorem mark_in (c : UInt8) : decide (0 ≤ Lib.indexByte [123, 125, 40, 41, 91, 93, 59, 44] c) = markB c := by
  rw [← Lib.contains_iff_indexByte]
  unfold markB
  rw [Bool.eq_iff_iff]
  simp [← UInt8.toNat_inj, or_assoc]
theorem contains_mark (t : ByteArray) (h : t.size = 1) (w : World) : Calls Tryd.prog 73 #[.string ⟨#[123, 125, 40, 41, 91, 93, 59, 44]⟩, .string t] w fun e w' => e = .returned (.bool (markB t[0])) ∧ w = w' := by
  have hc := Tryd.strings_Contains_one ⟨#[123, 125, 40, 41, 91, 93, 59, 44]⟩ t[0] w
  rw [← one_byte t h] at hc
  exact hc.mono fun _ _ ⟨a, b⟩ => ⟨by rw [a]; congr 2; exact mark_in _, b.symm⟩

set_option maxRecDepth 20000 in
set_option maxHeartbeats 1000000 in
theorem tokenCheck_any (k : Int) (t : ByteArray) (n : Int) (w : World) (hs : t.size ≤ maxLen) :
    Calls Tryd.prog 33 #[.agg #[.int .i64 k, .string t, .int .i64 n]] w (FaultIs k t n w) := by
  have hs' := hs
  unfold maxLen at hs'
  by_cases h3 : k = 3
  · subst h3
    by_cases hn : n < 0
    · have HF := Lib.hid (show faultOf 3 t n = 6 by unfold faultOf; rw [if_neg (by omega), if_pos rfl, if_pos (.inl hn)])
      go_enter Tryd.func33, Tryd.ntmps33
      go_wp2_with (fail)
      go_ret
      refine ⟨by rw [HF.out]; rfl, ?_⟩
      (repeat (first | with_reducible exact Below.refl _ _ | with_reducible refine Below.setCell ?_ ?_ _ | with_reducible refine Below.alloc ?_ ?_ _ | with_reducible refine Below.drew ?_ | with_reducible refine below_drewN ?_ _))
      all_goals (first | omega | (simp; done) | (simp; omega) | (dsimp only [World.drew] at *; omega))
    by_cases hn2 : 2147483647 < n
    · have HF := Lib.hid (show faultOf 3 t n = 6 by unfold faultOf; rw [if_neg (by omega), if_pos rfl, if_pos (.inr hn2)])
      go_enter Tryd.func33, Tryd.ntmps33
      go_wp2_with (fail)
      go_ret
      refine ⟨by rw [HF.out]; rfl, ?_⟩
      (repeat (first | with_reducible exact Below.refl _ _ | with_reducible refine Below.setCell ?_ ?_ _ | with_reducible refine Below.alloc ?_ ?_ _ | with_reducible refine Below.drew ?_ | with_reducible refine below_drewN ?_ _))
      all_goals (first | omega | (simp; done) | (simp; omega) | (dsimp only [World.drew] at *; omega))
    by_cases hz : 0 < t.size
    · have HF := Lib.hid (show faultOf 3 t n = 3 by unfold faultOf; rw [if_neg (by omega), if_pos rfl, if_neg (by omega), if_pos hz])
      have i1 : t.toList.isEmpty = false := by
        cases hb : t.toList.isEmpty
        · rfl
        · have h2 := List.isEmpty_iff.1 hb
          rw [ByteArray.toList_eq] at h2
          have h4 : (bs t).length = 0 := by unfold bs; rw [h2]; rfl
          rw [bs_len] at h4
          omega
      go_enter Tryd.func33, Tryd.ntmps33
      go_wp2_with (fail)
      go_ret
      refine ⟨by rw [HF.out]; rfl, ?_⟩
      (repeat (first | with_reducible exact Below.refl _ _ | with_reducible refine Below.setCell ?_ ?_ _ | with_reducible refine Below.alloc ?_ ?_ _ | with_reducible refine Below.drew ?_ | with_reducible refine below_drewN ?_ _))
      all_goals (first | omega | (simp; done) | (simp; omega) | (dsimp only [World.drew] at *; omega))
    · have HF := Lib.hid (show faultOf 3 t n = 0 by unfold faultOf; rw [if_neg (by omega), if_pos rfl, if_neg (by omega), if_neg hz])
      obtain rfl : t = ⟨#[]⟩ := by
        apply bs_inj
        have hl : (bs t).length = 0 := by rw [bs_len]; omega
        rw [List.length_eq_zero_iff.1 hl]
        rfl
      go_enter Tryd.func33, Tryd.ntmps33
      go_wp2_with (fail)
      go_ret
      refine ⟨by rw [HF.out]; rfl, ?_⟩
      (repeat (first | with_reducible exact Below.refl _ _ | with_reducible refine Below.setCell ?_ ?_ _ | with_reducible refine Below.alloc ?_ ?_ _ | with_reducible refine Below.drew ?_ | with_reducible refine below_drewN ?_ _))
      all_goals (first | omega | (simp; done) | (simp; omega) | (dsimp only [World.drew] at *; omega))
  by_cases h5 : k = 5
  · subst h5
    by_cases hz : t.size = 1
    · have i1 : ((t.size : Nat) : Int) = 1 := by omega
      cases hm : markB (t[0]'(by omega))
      · have HF := Lib.hid (fault_mark_no t n (fun _ => hm))
        have hc := fun wx => contains_mark t hz wx
        rw [hm] at hc
        have HC := Lib.hid hc
        clear hc hm
        go_enter Tryd.func33, Tryd.ntmps33
        go_wp2_with (first | (go_at_call 73; refine (HC.out _).mono ?_; rintro e w' ⟨rfl, rfl⟩))
        go_ret
        refine ⟨by rw [HF.out]; rfl, ?_⟩
        (repeat (first | with_reducible exact Below.refl _ _ | with_reducible refine Below.setCell ?_ ?_ _ | with_reducible refine Below.alloc ?_ ?_ _ | with_reducible refine Below.drew ?_ | with_reducible refine below_drewN ?_ _))
        all_goals (first | omega | (simp; done) | (simp; omega) | (dsimp only [World.drew] at *; omega))
      · by_cases hn : n = 0
        · subst hn
          have HF := Lib.hid (show faultOf 5 t 0 = 0 by unfold faultOf; rw [if_neg (by omega), if_neg h3, if_neg (by omega), if_pos rfl, dif_pos hz, hm]; rfl)
          have hc := fun wx => contains_mark t hz wx
          rw [hm] at hc
          have HC := Lib.hid hc
          clear hc hm
          go_enter Tryd.func33, Tryd.ntmps33
          go_wp2_with (first | (go_at_call 73; refine (HC.out _).mono ?_; rintro e w' ⟨rfl, rfl⟩))
          go_ret
          refine ⟨by rw [HF.out]; rfl, ?_⟩
          (repeat (first | with_reducible exact Below.refl _ _ | with_reducible refine Below.setCell ?_ ?_ _ | with_reducible refine Below.alloc ?_ ?_ _ | with_reducible refine Below.drew ?_ | with_reducible refine below_drewN ?_ _))
          all_goals (first | omega | (simp; done) | (simp; omega) | (dsimp only [World.drew] at *; omega))
        · have i2 : (n == 0) = false := by simpa using hn
          have HF := Lib.hid (show faultOf 5 t n = 3 by unfold faultOf; rw [if_neg (by omega), if_neg h3, if_pos hn])
          clear hn
          have hc := fun wx => contains_mark t hz wx
          rw [hm] at hc
          have HC := Lib.hid hc
          clear hc hm
          go_enter Tryd.func33, Tryd.ntmps33
          go_wp2_with (first | (go_at_call 73; refine (HC.out _).mono ?_; rintro e w' ⟨rfl, rfl⟩))
          go_ret
          refine ⟨by rw [HF.out]; rfl, ?_⟩
          (repeat (first | with_reducible exact Below.refl _ _ | with_reducible refine Below.setCell ?_ ?_ _ | with_reducible refine Below.alloc ?_ ?_ _ | with_reducible refine Below.drew ?_ | with_reducible refine below_drewN ?_ _))
          all_goals (first | omega | (simp; done) | (simp; omega) | (dsimp only [World.drew] at *; omega))
    · have i1 : (((t.size : Nat) : Int) == 1) = false := beq_false_of_ne (by omega)
      have i2 : (((t.size : Nat) : Int) != 1) = true := by simp only [bne, i1]; rfl
      have i3 : ¬ ((t.size : Nat) : Int) = 1 := by omega
      have HF := Lib.hid (fault_mark_no t n (fun h => absurd h hz))
      clear hz
      go_enter Tryd.func33, Tryd.ntmps33
      go_wp2_with (fail)
      go_ret
      refine ⟨by rw [HF.out]; rfl, ?_⟩
      (repeat (first | with_reducible exact Below.refl _ _ | with_reducible refine Below.setCell ?_ ?_ _ | with_reducible refine Below.alloc ?_ ?_ _ | with_reducible refine Below.drew ?_ | with_reducible refine below_drewN ?_ _))
      all_goals (first | omega | (simp; done) | (simp; omega) | (dsimp only [World.drew] at *; omega))
  by_cases h4 : k = 4
  · subst h4
    by_cases hn : n = 0
    · subst hn
      have HF := Lib.hid (show faultOf 4 t 0 = 0 by unfold faultOf; rw [if_neg (by omega), if_neg h3, if_neg (by omega), if_neg h5, if_pos rfl])
      go_enter Tryd.func33, Tryd.ntmps33
      go_wp2_with (fail)
      go_ret
      refine ⟨by rw [HF.out]; rfl, ?_⟩
      (repeat (first | with_reducible exact Below.refl _ _ | with_reducible refine Below.setCell ?_ ?_ _ | with_reducible refine Below.alloc ?_ ?_ _ | with_reducible refine Below.drew ?_ | with_reducible refine below_drewN ?_ _))
      all_goals (first | omega | (simp; done) | (simp; omega) | (dsimp only [World.drew] at *; omega))
    · have i2 : (n == 0) = false := by simpa using hn
      have HF := Lib.hid (show faultOf 4 t n = 3 by unfold faultOf; rw [if_neg (by omega), if_neg h3, if_pos hn])
      clear hn
      go_enter Tryd.func33, Tryd.ntmps33
      go_wp2_with (fail)
      go_ret
      refine ⟨by rw [HF.out]; rfl, ?_⟩
      (repeat (first | with_reducible exact Below.refl _ _ | with_reducible refine Below.setCell ?_ ?_ _ | with_reducible refine Below.alloc ?_ ?_ _ | with_reducible refine Below.drew ?_ | with_reducible refine below_drewN ?_ _))
      all_goals (first | omega | (simp; done) | (simp; omega) | (dsimp only [World.drew] at *; omega))
  by_cases h1 : k = 1
  · subst h1
    by_cases hl : ∃ hz : 0 < t.size, letterB (t[0]'hz) = true
    · obtain ⟨hz, hm⟩ := hl
      have hc := fun wx => letter_any (t[0]'hz) wx
      rw [hm] at hc
      have HC := Lib.hid hc
      have hnx := fun wx h0 h1 => next_any (w.heap.size + 1) t 0 wx h0 h1 hs
      rw [nextB_in t 0 hz] at hnx
      have HN := Lib.hid hnx
      have hw := fun wx h0 h1 hz hg => word_check (w.heap.size + 1) t wx h0 h1 hz hs hg
      clear hc hnx
      by_cases hr : runN wordB t 0 = t.size
      · rw [run_text t hr] at hw
        have HW := Lib.hid hw
        clear hw
        by_cases hn : n = 0
        · subst hn
          have HF := Lib.hid (show faultOf 1 t 0 = 0 by rw [fault_word 1 t (by omega) hz, if_pos ⟨hm, hr⟩])
          clear hm hr
          go_enter Tryd.func33, Tryd.ntmps33
          go_wp2_with (fail)
          go_region_held3 (fun w' => w'.cell? ⟨w.heap.size, 1, none⟩ = some (.string t)) (((try dsimp only); (repeat' apply And.intro) <;> (go_keep; done))) (first | (go_at_call 71; refine (HN.out _ (by simp [go_sem]) (by simp [go_sem])).mono ?_; rintro e wq ⟨rfl, nq, rfl⟩) | (go_at_call 70; refine (HC.out _).mono ?_; rintro e wq ⟨rfl, rfl⟩) | (go_at_call 72; refine (HW.out _ (by simp [go_sem]) (by simp [go_sem]) (by simp [go_sem]) (by simp)).mono ?_; rintro e w1 ⟨rfl, hb⟩; obtain ⟨k1a, k1b, k1c⟩ := own_at hb (b := w.heap.size) (by first | omega | (simp; done) | (simp; omega)); have z2 := hb.size; (try simp only [World.size_alloc, World.size_setCell] at z2)))
          go_wp2_with fail
          go_ret
          refine ⟨by rw [HF.out]; rfl, ?_⟩
          (repeat (first | with_reducible exact hb | with_reducible refine Below.trans ?_ (Below.mono hb ?_) | with_reducible exact Below.refl _ _ | with_reducible refine Below.setCell ?_ ?_ _ | with_reducible refine Below.alloc ?_ ?_ _ | with_reducible refine Below.drew ?_ | with_reducible refine below_drewN ?_ _))
          all_goals (first | omega | (simp; done) | (simp; omega) | (dsimp only [World.drew] at *; omega))
        · have i2 : (n == 0) = false := by simpa using hn
          have HF := Lib.hid (show faultOf 1 t n = 3 by unfold faultOf; rw [if_neg (by omega), if_neg h3, if_pos hn])
          clear hn hm hr
          go_enter Tryd.func33, Tryd.ntmps33
          go_wp2_with (fail)
          go_region_held3 (fun w' => w'.cell? ⟨w.heap.size, 1, none⟩ = some (.string t)) (((try dsimp only); (repeat' apply And.intro) <;> (go_keep; done))) (first | (go_at_call 71; refine (HN.out _ (by simp [go_sem]) (by simp [go_sem])).mono ?_; rintro e wq ⟨rfl, nq, rfl⟩) | (go_at_call 70; refine (HC.out _).mono ?_; rintro e wq ⟨rfl, rfl⟩) | (go_at_call 72; refine (HW.out _ (by simp [go_sem]) (by simp [go_sem]) (by simp [go_sem]) (by simp)).mono ?_; rintro e w1 ⟨rfl, hb⟩; obtain ⟨k3a, k3b, k3c⟩ := own_at hb (b := w.heap.size) (by first | omega | (simp; done) | (simp; omega)); have z4 := hb.size; (try simp only [World.size_alloc, World.size_setCell] at z4)))
          go_wp2_with fail
          go_ret
          refine ⟨by rw [HF.out]; rfl, ?_⟩
          (repeat (first | with_reducible exact hb | with_reducible refine Below.trans ?_ (Below.mono hb ?_) | with_reducible exact Below.refl _ _ | with_reducible refine Below.setCell ?_ ?_ _ | with_reducible refine Below.alloc ?_ ?_ _ | with_reducible refine Below.drew ?_ | with_reducible refine below_drewN ?_ _))
          all_goals (first | omega | (simp; done) | (simp; omega) | (dsimp only [World.drew] at *; omega))
      · have HF := Lib.hid (fault_word_no 1 t n (by omega) (fun _ h => hr h.2))
        have i3 := run_other t hr
        obtain ⟨u, hu⟩ : ∃ u, u = t.extract 0 (runN wordB t 0) := ⟨_, rfl⟩
        rw [← hu] at hw i3
        have HW := Lib.hid hw
        clear hw hm hr hu
        go_enter Tryd.func33, Tryd.ntmps33
        go_wp2_with (fail)
        go_region_held3 (fun w' => w'.cell? ⟨w.heap.size, 1, none⟩ = some (.string t)) (((try dsimp only); (repeat' apply And.intro) <;> (go_keep; done))) (first | (go_at_call 71; refine (HN.out _ (by simp [go_sem]) (by simp [go_sem])).mono ?_; rintro e wq ⟨rfl, nq, rfl⟩) | (go_at_call 70; refine (HC.out _).mono ?_; rintro e wq ⟨rfl, rfl⟩) | (go_at_call 72; refine (HW.out _ (by simp [go_sem]) (by simp [go_sem]) (by simp [go_sem]) (by simp)).mono ?_; rintro e w1 ⟨rfl, hb⟩; obtain ⟨k5a, k5b, k5c⟩ := own_at hb (b := w.heap.size) (by first | omega | (simp; done) | (simp; omega)); have z6 := hb.size; (try simp only [World.size_alloc, World.size_setCell] at z6)))
        go_wp2_with fail
        go_ret
        refine ⟨by rw [HF.out]; rfl, ?_⟩
        (repeat (first | with_reducible exact hb | with_reducible refine Below.trans ?_ (Below.mono hb ?_) | with_reducible exact Below.refl _ _ | with_reducible refine Below.setCell ?_ ?_ _ | with_reducible refine Below.alloc ?_ ?_ _ | with_reducible refine Below.drew ?_ | with_reducible refine below_drewN ?_ _))
        all_goals (first | omega | (simp; done) | (simp; omega) | (dsimp only [World.drew] at *; omega))
    · have HF := Lib.hid (fault_word_no 1 t n (by omega) (fun hz h => hl ⟨hz, h.1⟩))
      obtain ⟨c, hnc, hcl⟩ : ∃ c : UInt8, nextB t 0 = c ∧ letterB c = false := by
        by_cases hz : 0 < t.size
        · refine ⟨_, nextB_in t 0 hz, ?_⟩
          cases hm : letterB (t[0]'hz)
          · rfl
          · exact absurd ⟨hz, hm⟩ hl
        · exact ⟨_, nextB_out t 0 (by omega), by decide⟩
      have hc := fun wx => letter_any c wx
      rw [hcl] at hc
      have HC := Lib.hid hc
      have hnx := fun wx h0 h1 => next_any (w.heap.size + 1) t 0 wx h0 h1 hs
      rw [hnc] at hnx
      have HN := Lib.hid hnx
      clear hc hnx hnc hcl hl
      go_enter Tryd.func33, Tryd.ntmps33
      go_wp2_with (fail)
      go_quiet (first | (go_at_call 71; exact Calls.quiet_of (Calls.mono (HN.out _ (by simp [go_sem]) (by simp [go_sem])) (fun _ _ ⟨h1, h2⟩ => ⟨h1, h2⟩))) | (go_at_call 70; exact Calls.quiet_of_same (Calls.mono (HC.out _) (fun _ _ ⟨h1, h2⟩ => ⟨h1, h2.symm⟩))))
      go_wp2_with fail
      go_ret
      refine ⟨by rw [HF.out]; rfl, ?_⟩
      (repeat (first | with_reducible exact Below.refl _ _ | with_reducible refine Below.setCell ?_ ?_ _ | with_reducible refine Below.alloc ?_ ?_ _ | with_reducible refine Below.drew ?_ | with_reducible refine below_drewN ?_ _))
      all_goals (first | omega | (simp; done) | (simp; omega) | (dsimp only [World.drew] at *; omega))
  by_cases h2 : k = 2
  · subst h2
    by_cases hl : ∃ hz : 0 < t.size, letterB (t[0]'hz) = true
    · obtain ⟨hz, hm⟩ := hl
      have hc := fun wx => letter_any (t[0]'hz) wx
      rw [hm] at hc
      have HC := Lib.hid hc
      have hnx := fun wx h0 h1 => next_any (w.heap.size + 1) t 0 wx h0 h1 hs
      rw [nextB_in t 0 hz] at hnx
      have HN := Lib.hid hnx
      have hw := fun wx h0 h1 hz hg => word_check (w.heap.size + 1) t wx h0 h1 hz hs hg
      clear hc hnx
      by_cases hr : runN wordB t 0 = t.size
      · rw [run_text t hr] at hw
        have HW := Lib.hid hw
        clear hw
        by_cases hn : n = 0
        · subst hn
          have HF := Lib.hid (show faultOf 2 t 0 = 0 by rw [fault_word 2 t (by omega) hz, if_pos ⟨hm, hr⟩])
          clear hm hr
          go_enter Tryd.func33, Tryd.ntmps33
          go_wp2_with (fail)
          go_region_held3 (fun w' => w'.cell? ⟨w.heap.size, 1, none⟩ = some (.string t)) (((try dsimp only); (repeat' apply And.intro) <;> (go_keep; done))) (first | (go_at_call 71; refine (HN.out _ (by simp [go_sem]) (by simp [go_sem])).mono ?_; rintro e wq ⟨rfl, nq, rfl⟩) | (go_at_call 70; refine (HC.out _).mono ?_; rintro e wq ⟨rfl, rfl⟩) | (go_at_call 72; refine (HW.out _ (by simp [go_sem]) (by simp [go_sem]) (by simp [go_sem]) (by simp)).mono ?_; rintro e w1 ⟨rfl, hb⟩; obtain ⟨k7a, k7b, k7c⟩ := own_at hb (b := w.heap.size) (by first | omega | (simp; done) | (simp; omega)); have z8 := hb.size; (try simp only [World.size_alloc, World.size_setCell] at z8)))
          go_wp2_with fail
          go_ret
          refine ⟨by rw [HF.out]; rfl, ?_⟩
          (repeat (first | with_reducible exact hb | with_reducible refine Below.trans ?_ (Below.mono hb ?_) | with_reducible exact Below.refl _ _ | with_reducible refine Below.setCell ?_ ?_ _ | with_reducible refine Below.alloc ?_ ?_ _ | with_reducible refine Below.drew ?_ | with_reducible refine below_drewN ?_ _))
          all_goals (first | omega | (simp; done) | (simp; omega) | (dsimp only [World.drew] at *; omega))
        · have i2 : (n == 0) = false := by simpa using hn
          have HF := Lib.hid (show faultOf 2 t n = 3 by unfold faultOf; rw [if_neg (by omega), if_neg h3, if_pos hn])
          clear hn hm hr
          go_enter Tryd.func33, Tryd.ntmps33
          go_wp2_with (fail)
          go_region_held3 (fun w' => w'.cell? ⟨w.heap.size, 1, none⟩ = some (.string t)) (((try dsimp only); (repeat' apply And.intro) <;> (go_keep; done))) (first | (go_at_call 71; refine (HN.out _ (by simp [go_sem]) (by simp [go_sem])).mono ?_; rintro e wq ⟨rfl, nq, rfl⟩) | (go_at_call 70; refine (HC.out _).mono ?_; rintro e wq ⟨rfl, rfl⟩) | (go_at_call 72; refine (HW.out _ (by simp [go_sem]) (by simp [go_sem]) (by simp [go_sem]) (by simp)).mono ?_; rintro e w1 ⟨rfl, hb⟩; obtain ⟨k9a, k9b, k9c⟩ := own_at hb (b := w.heap.size) (by first | omega | (simp; done) | (simp; omega)); have z10 := hb.size; (try simp only [World.size_alloc, World.size_setCell] at z10)))
          go_wp2_with fail
          go_ret
          refine ⟨by rw [HF.out]; rfl, ?_⟩
          (repeat (first | with_reducible exact hb | with_reducible refine Below.trans ?_ (Below.mono hb ?_) | with_reducible exact Below.refl _ _ | with_reducible refine Below.setCell ?_ ?_ _ | with_reducible refine Below.alloc ?_ ?_ _ | with_reducible refine Below.drew ?_ | with_reducible refine below_drewN ?_ _))
          all_goals (first | omega | (simp; done) | (simp; omega) | (dsimp only [World.drew] at *; omega))
      · have HF := Lib.hid (fault_word_no 2 t n (by omega) (fun _ h => hr h.2))
        have i3 := run_other t hr
        obtain ⟨u, hu⟩ : ∃ u, u = t.extract 0 (runN wordB t 0) := ⟨_, rfl⟩
        rw [← hu] at hw i3
        have HW := Lib.hid hw
        clear hw hm hr hu
        go_enter Tryd.func33, Tryd.ntmps33
        go_wp2_with (fail)
        go_region_held3 (fun w' => w'.cell? ⟨w.heap.size, 1, none⟩ = some (.string t)) (((try dsimp only); (repeat' apply And.intro) <;> (go_keep; done))) (first | (go_at_call 71; refine (HN.out _ (by simp [go_sem]) (by simp [go_sem])).mono ?_; rintro e wq ⟨rfl, nq, rfl⟩) | (go_at_call 70; refine (HC.out _).mono ?_; rintro e wq ⟨rfl, rfl⟩) | (go_at_call 72; refine (HW.out _ (by simp [go_sem]) (by simp [go_sem]) (by simp [go_sem]) (by simp)).mono ?_; rintro e w1 ⟨rfl, hb⟩; obtain ⟨k11a, k11b, k11c⟩ := own_at hb (b := w.heap.size) (by first | omega | (simp; done) | (simp; omega)); have z12 := hb.size; (try simp only [World.size_alloc, World.size_setCell] at z12)))
        go_wp2_with fail
        go_ret
        refine ⟨by rw [HF.out]; rfl, ?_⟩
        (repeat (first | with_reducible exact hb | with_reducible refine Below.trans ?_ (Below.mono hb ?_) | with_reducible exact Below.refl _ _ | with_reducible refine Below.setCell ?_ ?_ _ | with_reducible refine Below.alloc ?_ ?_ _ | with_reducible refine Below.drew ?_ | with_reducible refine below_drewN ?_ _))
        all_goals (first | omega | (simp; done) | (simp; omega) | (dsimp only [World.drew] at *; omega))
    · have HF := Lib.hid (fault_word_no 2 t n (by omega) (fun hz h => hl ⟨hz, h.1⟩))
      obtain ⟨c, hnc, hcl⟩ : ∃ c : UInt8, nextB t 0 = c ∧ letterB c = false := by
        by_cases hz : 0 < t.size
        · refine ⟨_, nextB_in t 0 hz, ?_⟩
          cases hm : letterB (t[0]'hz)
          · rfl
          · exact absurd ⟨hz, hm⟩ hl
        · exact ⟨_, nextB_out t 0 (by omega), by decide⟩
      have hc := fun wx => letter_any c wx
      rw [hcl] at hc
      have HC := Lib.hid hc
      have hnx := fun wx h0 h1 => next_any (w.heap.size + 1) t 0 wx h0 h1 hs
      rw [hnc] at hnx
      have HN := Lib.hid hnx
      clear hc hnx hnc hcl hl
      go_enter Tryd.func33, Tryd.ntmps33
      go_wp2_with (fail)
      go_quiet (first | (go_at_call 71; exact Calls.quiet_of (Calls.mono (HN.out _ (by simp [go_sem]) (by simp [go_sem])) (fun _ _ ⟨h1, h2⟩ => ⟨h1, h2⟩))) | (go_at_call 70; exact Calls.quiet_of_same (Calls.mono (HC.out _) (fun _ _ ⟨h1, h2⟩ => ⟨h1, h2.symm⟩))))
      go_wp2_with fail
      go_ret
      refine ⟨by rw [HF.out]; rfl, ?_⟩
      (repeat (first | with_reducible exact Below.refl _ _ | with_reducible refine Below.setCell ?_ ?_ _ | with_reducible refine Below.alloc ?_ ?_ _ | with_reducible refine Below.drew ?_ | with_reducible refine below_drewN ?_ _))
      all_goals (first | omega | (simp; done) | (simp; omega) | (dsimp only [World.drew] at *; omega))
  · have HF := Lib.hid (show faultOf k t n = 2 by unfold faultOf; rw [if_pos (by omega)])
    have j1 : (k == 1) = false := by simpa using h1
    have j2 : (k == 2) = false := by simpa using h2
    have j3 : (k == 3) = false := by simpa using h3
    have j4 : (k == 4) = false := by simpa using h4
    have j5 : (k == 5) = false := by simpa using h5
    clear h1 h2 h3 h4 h5
    go_enter Tryd.func33, Tryd.ntmps33
    go_wp2_with (fail)
    go_ret
    refine ⟨by rw [HF.out]; rfl, ?_⟩
    (repeat (first | with_reducible exact Below.refl _ _ | with_reducible refine Below.setCell ?_ ?_ _ | with_reducible refine Below.alloc ?_ ?_ _ | with_reducible refine Below.drew ?_ | with_reducible refine below_drewN ?_ _))
    all_goals (first | omega | (simp; done) | (simp; omega) | (dsimp only [World.drew] at *; omega))
end Go.Proofs.YthpkjmbdjnelfaaDoor

namespace Go.Proofs.YthpkjmbdjnelfaaDoor
set_option linter.unusedSimpArgs false
set_option linter.unusedVariables false
abbrev Tx := List UInt8
structure Tk where
  kind : Int
  text : Tx
  num : Int
def tkD (t : Tk) : List D := [.int .i64 t.kind, .str t.text, .int .i64 t.num]
def tkA (t : Tk) : List AV := [.d (.int .i64 t.kind), .d (.str t.text), .d (.int .i64 t.num)]
def tksD (l : List Tk) : List (List D) := l.map tkD
@[go_sem] theorem tksD_len (l : List Tk) : (tksD l).length = l.length := by simp [tksD]
theorem tksD_get (l : List Tk) (i : Nat) (d : List D) (h : i < l.length) : (tksD l).getD i d = tkD (l[i]'h) := by simp [tksD, List.getD, h]
/-- what is wrong with a token -/
def tkE (t : Tk) : Int := faultOf t.kind ⟨t.text.toArray⟩ t.num
theorem tkFault_c (T : Tbl) (t : Tk) : PC Tryd.prog T 40 [.agg (tkA t)] (.d (.int .i64 (tkE t))) := PC.old Tryd.call40 fun F w vs hF hT R => by
  obtain ⟨v, rfl, hv⟩ := slr1 R
  obtain ⟨us, rfl, hr⟩ := hv.agg_inv
  obtain ⟨v1, v2, v3, rfl, h1, h2, h3⟩ := slr3 hr
  cases h1 with
  | d h1 =>
    cases h2 with
    | d h2 =>
      cases h3 with
      | d h3 =>
        obtain rfl := h1.int_inv
        obtain rfl := h3.int_inv
        obtain ⟨t2, rfl, e2, hz⟩ := h2.str_inv
        refine (tokenFault_any t.kind t2 t.num w hz).mono ?_
        rintro e w' ⟨rfl, hb⟩
        have q : t2 = ⟨t.text.toArray⟩ := by rw [← e2]
        rw [q]
        exact ⟨_, rfl, hb, .d (.int _ _)⟩
end Go.Proofs.YthpkjmbdjnelfaaDoor

namespace Go.Proofs.YthpkjmbdjnelfaaDoor
set_option linter.unusedSimpArgs false
set_option linter.unusedVariables false
theorem decD_s {n : Nat} (h : n < 10) : Lib.decDigits n = [UInt8.ofNat (48 + n)] := by rw [Lib.decDigits, dif_pos h]
theorem decD_b {n : Nat} (h : ¬ n < 10) : Lib.decDigits n = Lib.decDigits (n / 10) ++ [UInt8.ofNat (48 + n % 10)] := by rw [Lib.decDigits, dif_neg h]
theorem byte_of {n : Nat} (h : n < 208) : [[D.int .u8 (48 + (n : Int))]] = byteRows [UInt8.ofNat (48 + n)] := by
  have : ((UInt8.ofNat (48 + n)).toNat : Int) = 48 + (n : Int) := by rw [UInt8.toNat_ofNat']; omega
  simp only [byteRows, List.map_cons, List.map_nil, this]
theorem byte_wr {n : Nat} (h : n < 208) : IntKind.u8.wrap (48 + (n : Int)) = 48 + (n : Int) := inR_wrap (by simp only [inR]; omega)
theorem tcast (n : Nat) : (n : Int) + 1 = ((n + 1 : Nat) : Int) := rfl
theorem decD_len : ∀ (n : Nat), n ≤ 2147483647 → (Lib.decDigits n).length ≤ 10 := by
  have key : ∀ (k n : Nat), n < 10 ^ (k + 1) → (Lib.decDigits n).length ≤ k + 1 := by
    intro k
    induction k with
    | zero => intro n h; rw [decD_s (by omega)]; simp
    | succ k ih =>
      intro n h
      by_cases hn : n < 10
      · rw [decD_s hn]; simp
      · rw [decD_b hn]
        have := ih (n / 10) (by rw [Nat.pow_succ] at h; omega)
        simp; omega
  intro n h
  exact key 9 n (by omega)
set_option maxRecDepth 4000 in
set_option maxHeartbeats 1000000 in
theorem Dec_s (T : Tbl) (n : Nat) (hn : n ≤ 2147483647) (ih : ∀ m, m < n → PC Tryd.prog T 80 [.d (.int .i64 (m : Nat))] (.d (.str (Lib.decDigits m)))) : PC Tryd.prog T 80 [.d (.int .i64 (n : Nat))] (.d (.str (Lib.decDigits n))) := by
  refine ⟨Tryd.call80, PCall.enterS Tryd.func80 rfl Tryd.ntmps80 rfl fun hb => ?_⟩
  simp only [go_sem, Tryd.results80]
  refine AWp.rs fun K1 hK1 => ?_
  try simp only [go_sem]
  (repeat (with_reducible refine And.intro ?_ ?_; (first | omega | (intro _; omega) | decide | (exact nfB) | (intro _; exact nfB) | (intro hg; refine ⟨hg, ?_⟩; omega) | (simp; done) | (simp; omega) | (intro hg; simp at hg; done) | (intro hg; simp at hg ⊢; first | omega | exact hg | grind))))
  refine hK1 _ _ ?_
  try clear hK1 K1
  refine AWp.seq fun K2 hK2 => ?_
  refine AWp.rs fun K3 hK3 => ?_
  try simp only [go_sem]
  (repeat (with_reducible refine And.intro ?_ ?_; (first | omega | (intro _; omega) | decide | (exact nfB) | (intro _; exact nfB) | (intro hg; refine ⟨hg, ?_⟩; omega) | (simp; done) | (simp; omega) | (intro hg; simp at hg; done) | (intro hg; simp at hg ⊢; first | omega | exact hg | grind))))
  refine hK3 _ _ ?_
  try clear hK3 K3
  refine AWp.cond _ rfl (fun hc0 => ?_) (fun hc0 => ?_)
  · skip
    try simp only [decide_eq_true_eq, decide_eq_false_iff_not, Bool.not_eq_true', Bool.not_eq_false', Bool.and_eq_true, Bool.or_eq_true, Bool.and_eq_false_iff, Bool.or_eq_false_iff, Int.not_lt, Int.not_le, beq_iff_eq, beq_eq_false_iff_ne, ne_eq, Bool.not_eq_true, Bool.not_eq_false] at hc0
    have h10 : n < 10 := by omega
    have hb := byte_of (n := n) (by omega)
    have hw := byte_wr (n := n) (by omega)
    refine AWp.rs fun K4 hK4 => ?_
    try simp only [go_sem, hw, hb, bytesOf_byteRows]
    (repeat (with_reducible refine And.intro ?_ ?_; (first | omega | (intro _; omega) | decide | (exact nfB) | (intro _; exact nfB) | (intro hg; refine ⟨hg, ?_⟩; omega) | (simp; done) | (simp; omega) | (intro hg; simp at hg; done) | (intro hg; simp at hg ⊢; first | omega | exact hg | grind))))
    refine hK4 _ _ ?_
    try clear hK4 K4
    refine AWp.mask [false, true] rfl ?_
    simp only [go_sem]
    refine AWp.ret ?_
    try simp only [go_sem, hw, hb, bytesOf_byteRows]
    rw [decD_s h10]
  · skip
    try simp only [decide_eq_true_eq, decide_eq_false_iff_not, Bool.not_eq_true', Bool.not_eq_false', Bool.and_eq_true, Bool.or_eq_true, Bool.and_eq_false_iff, Bool.or_eq_false_iff, Int.not_lt, Int.not_le, beq_iff_eq, beq_eq_false_iff_ne, ne_eq, Bool.not_eq_true, Bool.not_eq_false] at hc0
    have h10 : ¬ n < 10 := by omega
    have hq : (n : Int).tdiv 10 = ((n / 10 : Nat) : Int) := by rw [Int.tdiv_eq_ediv_of_nonneg (by omega)]; rfl
    have hr : (n : Int).tmod 10 = ((n % 10 : Nat) : Int) := by rw [Int.tmod_eq_emod_of_nonneg (by omega)]; rfl
    have hb := byte_of (n := n % 10) (by omega)
    have hw := byte_wr (n := n % 10) (by omega)
    have hl := decD_len (n / 10) (by omega)
    refine AWp.skip ?_
    refine thenQ_n ?_
    refine hK2 _ _ ?_
    try clear hK2 K2
    refine AWp.ds true [0, 1, 2, 3, 4, 5, 6, 7, 8, 9, 10] rfl (by kernel_rfl) fun K5 hK5 => ?_
    try simp only [go_sem, hq, hr, hw, hb, bytesOf_byteRows]
    (repeat (with_reducible refine And.intro ?_ ?_; (first | omega | (intro _; omega) | decide | (exact nfB) | (intro _; exact nfB) | (intro hg; refine ⟨hg, ?_⟩; omega) | (simp; done) | (simp; omega) | (intro hg; simp at hg; done) | (intro hg; simp at hg ⊢; first | omega | exact hg | grind))))
    refine DW.pcr rfl rfl rfl rfl (ih (n / 10) (by omega)) rfl rfl ?_
    try simp only [go_sem, hq, hr, hw, hb, bytesOf_byteRows]
    (repeat (with_reducible refine And.intro ?_ ?_; (first | omega | (intro _; omega) | decide | (exact nfB) | (intro _; exact nfB) | (intro hg; refine ⟨hg, ?_⟩; omega) | (simp; done) | (simp; omega) | (intro hg; simp at hg; done) | (intro hg; simp at hg ⊢; first | omega | exact hg | grind))))
    refine hK5 _ _ ?_
    try clear hK5 K5
    refine AWp.mask [false, true] rfl ?_
    simp only [go_sem]
    refine AWp.ret ?_
    try simp only [go_sem, hq, hr, hw, hb, bytesOf_byteRows]
    rw [decD_b h10]
end Go.Proofs.YthpkjmbdjnelfaaDoor

namespace Go.Proofs.YthpkjmbdjnelfaaDoor
set_option linter.unusedSimpArgs false
set_option linter.unusedVariables false
/-- what a token writes -/
def isEs (c : UInt8) : Bool := decide ((c.toNat : Int) = 34) || decide ((c.toNat : Int) = 92)
def escT : Tx → Tx
  | [] => []
  | c :: r => if isEs c = true then 92 :: c :: escT r else c :: escT r
theorem escT_app : ∀ (a c : Tx), escT (a ++ c) = escT a ++ escT c
  | [], c => rfl
  | x :: a, c => by
    rw [List.cons_append, escT, escT, escT_app a c]
    split <;> rfl
theorem escT_len : ∀ a : Tx, (escT a).length ≤ 2 * a.length
  | [] => by simp [escT]
  | c :: a => by
    have := escT_len a
    rw [escT]
    split <;> simp <;> omega
def txtT (t : Tk) : Tx := if t.kind = 3 then Lib.decDigits t.num.toNat else if t.kind = 2 then 58 :: t.text else if t.kind = 4 then 34 :: (escT t.text ++ [34]) else t.text
theorem txt_3 {t : Tk} (h : t.kind = 3) : txtT t = Lib.decDigits t.num.toNat := if_pos h
theorem txt_2 {t : Tk} (h : t.kind = 2) : txtT t = 58 :: t.text := by rw [txtT, if_neg (by omega), if_pos h]
theorem txt_4 {t : Tk} (h : t.kind = 4) : txtT t = 34 :: (escT t.text ++ [34]) := by rw [txtT, if_neg (by omega), if_neg (by omega), if_pos h]
theorem txt_n {t : Tk} (h3 : ¬ t.kind = 3) (h2 : ¬ t.kind = 2) (h4 : ¬ t.kind = 4) : txtT t = t.text := by rw [txtT, if_neg h3, if_neg h2, if_neg h4]
theorem Dec_c (T : Tbl) : ∀ (n : Nat), n ≤ 2147483647 → PC Tryd.prog T 80 [.d (.int .i64 (n : Nat))] (.d (.str (Lib.decDigits n))) := fun n => Nat.strongRecOn n fun n ih hn => Dec_s T n hn fun m hm => ih m hm (by omega)
theorem takeS {s : Tx} {k : Nat} (h : k < s.length) : s.take (k + 1) = s.take k ++ [s.getD k 0] := by rw [List.take_add_one]; simp [List.getElem?_eq_getElem h, List.getD]
theorem brApp (a c : Tx) : byteRows a ++ byteRows c = byteRows (a ++ c) := by simp [byteRows]
@[go_sem] theorem brLen (a : Tx) : (byteRows a).length = a.length := by simp [byteRows]
theorem brOne (c : UInt8) : [[D.int .u8 (c.toNat : Int)]] = byteRows [c] := rfl
theorem br92 : [[D.int .u8 92]] = byteRows [92] := rfl
theorem es_t {s : Tx} {k : Nat} (h : k < s.length) (hc : isEs (s.getD k 0) = true) : escT (s.take (k + 1)) = escT (s.take k) ++ [92] ++ [s.getD k 0] := by rw [takeS h, escT_app, escT, if_pos hc]; simp [escT]
theorem es_f {s : Tx} {k : Nat} (h : k < s.length) (hc : isEs (s.getD k 0) = false) : escT (s.take (k + 1)) = escT (s.take k) ++ [s.getD k 0] := by rw [takeS h, escT_app, escT, if_neg (by rw [hc]; exact Bool.false_ne_true)]; simp [escT]
set_option maxRecDepth 4000 in
set_option maxHeartbeats 1000000 in
theorem tokenText_c (T : Tbl) (t : Tk) (h3 : t.kind = 3 → 0 ≤ t.num ∧ t.num ≤ 2147483647) (hz : t.text.length ≤ 1048576) : PC Tryd.prog T 41 [.agg (tkA t)] (.d (.str (txtT t))) := by
  refine ⟨Tryd.call41, PCall.enterS Tryd.func41 rfl Tryd.ntmps41 rfl fun hb => ?_⟩
  simp only [go_sem, Tryd.results41]
  refine AWp.rs fun K1 hK1 => ?_
  try simp only [go_sem, tcast, tkA]
  (repeat (with_reducible refine And.intro ?_ ?_; (first | omega | (intro _; omega) | decide | (exact nfB) | (intro _; exact nfB) | (intro hg; refine ⟨hg, ?_⟩; omega) | (simp; done) | (simp; omega) | (intro hg; simp at hg; done) | (intro hg; simp at hg ⊢; first | omega | exact hg | grind))))
  intro b1
  first | intro fb1 | have fb1 := True.intro
  try simp only [freshL] at fb1
  try simp only [go_sem, tcast, tkA, fb1]
  (repeat (with_reducible refine And.intro ?_ ?_; (first | omega | (intro _; omega) | decide | (exact nfB) | (intro _; exact nfB) | (intro hg; refine ⟨hg, ?_⟩; omega) | (simp; done) | (simp; omega) | (intro hg; simp at hg; done) | (intro hg; simp at hg ⊢; first | omega | exact hg | grind))))
  refine hK1 _ _ ?_
  try clear hK1 K1
  refine AWp.seq fun K2 hK2 => ?_
  refine AWp.rs fun K3 hK3 => ?_
  try simp only [go_sem, tcast, tkA, fb1]
  (repeat (with_reducible refine And.intro ?_ ?_; (first | omega | (intro _; omega) | decide | (exact nfB) | (intro _; exact nfB) | (intro hg; refine ⟨hg, ?_⟩; omega) | (simp; done) | (simp; omega) | (intro hg; simp at hg; done) | (intro hg; simp at hg ⊢; first | omega | exact hg | grind))))
  refine hK3 _ _ ?_
  try clear hK3 K3
  refine AWp.mask [false, true, false, false, false, true] rfl ?_
  simp only [go_sem]
  refine AWp.cond _ rfl (fun hc0 => ?_) (fun hc0 => ?_)
  · skip
    try simp only [decide_eq_true_eq, decide_eq_false_iff_not, Bool.not_eq_true', Bool.not_eq_false', Bool.and_eq_true, Bool.or_eq_true, Bool.and_eq_false_iff, Bool.or_eq_false_iff, Int.not_lt, Int.not_le, beq_iff_eq, beq_eq_false_iff_ne, ne_eq, Bool.not_eq_true, Bool.not_eq_false] at hc0
    obtain ⟨n, hn⟩ := Int.eq_ofNat_of_zero_le (h3 hc0).1
    have hn2 := (h3 hc0).2
    refine AWp.rs fun K4 hK4 => ?_
    try simp only [go_sem, tcast, tkA, fb1, hn]
    (repeat (with_reducible refine And.intro ?_ ?_; (first | omega | (intro _; omega) | decide | (exact nfB) | (intro _; exact nfB) | (intro hg; refine ⟨hg, ?_⟩; omega) | (simp; done) | (simp; omega) | (intro hg; simp at hg; done) | (intro hg; simp at hg ⊢; first | omega | exact hg | grind))))
    refine DW.pcr rfl rfl rfl rfl (Dec_c T n (by omega)) rfl rfl ?_
    try simp only [go_sem, tcast, tkA, fb1, hn]
    (repeat (with_reducible refine And.intro ?_ ?_; (first | omega | (intro _; omega) | decide | (exact nfB) | (intro _; exact nfB) | (intro hg; refine ⟨hg, ?_⟩; omega) | (simp; done) | (simp; omega) | (intro hg; simp at hg; done) | (intro hg; simp at hg ⊢; first | omega | exact hg | grind))))
    refine hK4 _ _ ?_
    try clear hK4 K4
    refine AWp.mask [false, true] rfl ?_
    simp only [go_sem]
    refine AWp.ret ?_
    try simp only [go_sem, tcast, tkA, fb1, hn]
    rw [txt_3 hc0, hn]; rfl
  · skip
    try simp only [decide_eq_true_eq, decide_eq_false_iff_not, Bool.not_eq_true', Bool.not_eq_false', Bool.and_eq_true, Bool.or_eq_true, Bool.and_eq_false_iff, Bool.or_eq_false_iff, Int.not_lt, Int.not_le, beq_iff_eq, beq_eq_false_iff_ne, ne_eq, Bool.not_eq_true, Bool.not_eq_false] at hc0
    refine AWp.skip ?_
    refine thenQ_n ?_
    refine hK2 _ _ ?_
    try clear hK2 K2
    refine AWp.seq fun K5 hK5 => ?_
    refine AWp.rs fun K6 hK6 => ?_
    try simp only [go_sem, tcast, tkA, fb1]
    (repeat (with_reducible refine And.intro ?_ ?_; (first | omega | (intro _; omega) | decide | (exact nfB) | (intro _; exact nfB) | (intro hg; refine ⟨hg, ?_⟩; omega) | (simp; done) | (simp; omega) | (intro hg; simp at hg; done) | (intro hg; simp at hg ⊢; first | omega | exact hg | grind))))
    refine hK6 _ _ ?_
    try clear hK6 K6
    refine AWp.cond _ rfl (fun hc1 => ?_) (fun hc1 => ?_)
    · skip
      try simp only [decide_eq_true_eq, decide_eq_false_iff_not, Bool.not_eq_true', Bool.not_eq_false', Bool.and_eq_true, Bool.or_eq_true, Bool.and_eq_false_iff, Bool.or_eq_false_iff, Int.not_lt, Int.not_le, beq_iff_eq, beq_eq_false_iff_ne, ne_eq, Bool.not_eq_true, Bool.not_eq_false] at hc1
      refine AWp.rs fun K7 hK7 => ?_
      try simp only [go_sem, tcast, tkA, fb1]
      (repeat (with_reducible refine And.intro ?_ ?_; (first | omega | (intro _; omega) | decide | (exact nfB) | (intro _; exact nfB) | (intro hg; refine ⟨hg, ?_⟩; omega) | (simp; done) | (simp; omega) | (intro hg; simp at hg; done) | (intro hg; simp at hg ⊢; first | omega | exact hg | grind))))
      refine hK7 _ _ ?_
      try clear hK7 K7
      refine AWp.mask [false, true] rfl ?_
      simp only [go_sem]
      refine AWp.ret ?_
      try simp only [go_sem, tcast, tkA, fb1]
      rw [txt_2 hc1]
    · skip
      try simp only [decide_eq_true_eq, decide_eq_false_iff_not, Bool.not_eq_true', Bool.not_eq_false', Bool.and_eq_true, Bool.or_eq_true, Bool.and_eq_false_iff, Bool.or_eq_false_iff, Int.not_lt, Int.not_le, beq_iff_eq, beq_eq_false_iff_ne, ne_eq, Bool.not_eq_true, Bool.not_eq_false] at hc1
      refine AWp.skip ?_
      refine thenQ_n ?_
      refine hK5 _ _ ?_
      try clear hK5 K5
      refine AWp.mask [true] rfl ?_
      simp only [go_sem]
      refine AWp.seq fun K8 hK8 => ?_
      refine AWp.rs fun K9 hK9 => ?_
      try simp only [go_sem, tcast, tkA, fb1]
      (repeat (with_reducible refine And.intro ?_ ?_; (first | omega | (intro _; omega) | decide | (exact nfB) | (intro _; exact nfB) | (intro hg; refine ⟨hg, ?_⟩; omega) | (simp; done) | (simp; omega) | (intro hg; simp at hg; done) | (intro hg; simp at hg ⊢; first | omega | exact hg | grind))))
      refine hK9 _ _ ?_
      try clear hK9 K9
      refine AWp.cond _ rfl (fun hc2 => ?_) (fun hc2 => ?_)
      · skip
        try simp only [decide_eq_true_eq, decide_eq_false_iff_not, Bool.not_eq_true', Bool.not_eq_false', Bool.and_eq_true, Bool.or_eq_true, Bool.and_eq_false_iff, Bool.or_eq_false_iff, Int.not_lt, Int.not_le, beq_iff_eq, beq_eq_false_iff_ne, ne_eq, Bool.not_eq_true, Bool.not_eq_false] at hc2
        refine AWp.rs fun K10 hK10 => ?_
        try simp only [go_sem, tcast, tkA, fb1]
        (repeat (with_reducible refine And.intro ?_ ?_; (first | omega | (intro _; omega) | decide | (exact nfB) | (intro _; exact nfB) | (intro hg; refine ⟨hg, ?_⟩; omega) | (simp; done) | (simp; omega) | (intro hg; simp at hg; done) | (intro hg; simp at hg ⊢; first | omega | exact hg | grind))))
        refine hK10 _ _ ?_
        try clear hK10 K10
        refine AWp.mask [false, true] rfl ?_
        simp only [go_sem]
        refine AWp.ret ?_
        try simp only [go_sem, tcast, tkA, fb1]
        rw [txt_n hc0 hc1 hc2]
      · skip
        try simp only [decide_eq_true_eq, decide_eq_false_iff_not, Bool.not_eq_true', Bool.not_eq_false', Bool.and_eq_true, Bool.or_eq_true, Bool.and_eq_false_iff, Bool.or_eq_false_iff, Int.not_lt, Int.not_le, beq_iff_eq, beq_eq_false_iff_ne, ne_eq, Bool.not_eq_true, Bool.not_eq_false] at hc2
        refine AWp.skip ?_
        refine thenQ_n ?_
        refine hK8 _ _ ?_
        try clear hK8 K8
        refine AWp.rs fun K11 hK11 => ?_
        try simp only [go_sem, tcast, tkA, fb1]
        (repeat (with_reducible refine And.intro ?_ ?_; (first | omega | (intro _; omega) | decide | (exact nfB) | (intro _; exact nfB) | (intro hg; refine ⟨hg, ?_⟩; omega) | (simp; done) | (simp; omega) | (intro hg; simp at hg; done) | (intro hg; simp at hg ⊢; first | omega | exact hg | grind))))
        refine hK11 _ _ ?_
        try clear hK11 K11
        refine AWp.seq fun K12 hK12 => ?_
        refine AWp.rs fun K13 hK13 => ?_
        try simp only [go_sem, tcast, tkA, fb1]
        (repeat (with_reducible refine And.intro ?_ ?_; (first | omega | (intro _; omega) | decide | (exact nfB) | (intro _; exact nfB) | (intro hg; refine ⟨hg, ?_⟩; omega) | (simp; done) | (simp; omega) | (intro hg; simp at hg; done) | (intro hg; simp at hg ⊢; first | omega | exact hg | grind))))
        refine hK13 _ _ ?_
        try clear hK13 K13
        refine AWp.block ?_
        refine AWp.mask [true, true, true] rfl ?_
        simp only [go_sem]
        refine AWp.ownNilS 3 1 rfl rfl (by decide) fun t0 ft0 => ?_
        try simp only [freshT] at ft0
        simp only [go_sem]
        refine AWp.loopS [true] [false, true, true] (fun n lc hc => ∃ (k v : Nat), n = t.text.length - k ∧ EqS lc [(3, .own v 1 (byteRows (escT (t.text.take k)))), (4, .d (.int .i64 k))] ∧ EqS hc (⟨[(b1, ⟨3, 1, [tkA t]⟩)], [v]⟩) ∧ (k ≤ t.text.length)) rfl ?_ ?_
        · refine ⟨_, 0, t0, rfl, ?_, ?_, ?_⟩
          · (try simp only [go_sem, tcast, tkA, fb1, ft0]) <;> first | exact ⟨rfl⟩ | (constructor; simp; done)
          · (try simp only [go_sem, tcast, tkA, fb1, ft0]) <;> first | exact ⟨rfl⟩ | (constructor; simp; done)
          all_goals (first | omega | rfl | (simp; done) | (simp; omega) | assumption)
        · rintro _ _ _ ⟨k, v, rfl, ⟨rfl⟩, ⟨rfl⟩, h1⟩
          simp only [go_sem]
          refine AWp.seq fun K14 hK14 => ?_
          refine AWp.rs fun K15 hK15 => ?_
          try simp only [go_sem, tcast, tkA, fb1, ft0]
          (repeat (with_reducible refine And.intro ?_ ?_; (first | omega | (intro _; omega) | decide | (exact nfB) | (intro _; exact nfB) | (intro hg; refine ⟨hg, ?_⟩; omega) | (simp; done) | (simp; omega) | (intro hg; simp at hg; done) | (intro hg; simp at hg ⊢; first | omega | exact hg | grind))))
          refine hK15 _ _ ?_
          try clear hK15 K15
          refine AWp.mask [true, true, true, false, false, false, false, true] rfl ?_
          simp only [go_sem]
          refine AWp.cond _ rfl (fun hc3 => ?_) (fun hc3 => ?_)
          · skip
            try simp only [decide_eq_true_eq, decide_eq_false_iff_not, Bool.not_eq_true', Bool.not_eq_false', Bool.and_eq_true, Bool.or_eq_true, Bool.and_eq_false_iff, Bool.or_eq_false_iff, Int.not_lt, Int.not_le, beq_iff_eq, beq_eq_false_iff_ne, ne_eq, Bool.not_eq_true, Bool.not_eq_false] at hc3
            have hlt : k < t.text.length := by omega
            have hki : (k : Int) < (t.text.length : Int) := by omega
            have htl : (escT (t.text.take k)).length ≤ 2 * 1048576 := Nat.le_trans (escT_len _) (by simp; omega)
            refine AWp.skip ?_
            refine thenQ_n ?_
            refine hK14 _ _ ?_
            try clear hK14 K14
            refine AWp.seq fun K16 hK16 => ?_
            refine AWp.block ?_
            refine AWp.seq fun K17 hK17 => ?_
            refine AWp.rs fun K18 hK18 => ?_
            try simp only [go_sem, tcast, tkA, fb1, ft0, hki]
            (repeat (with_reducible refine And.intro ?_ ?_; (first | omega | (intro _; omega) | decide | (exact nfB) | (intro _; exact nfB) | (intro hg; refine ⟨hg, ?_⟩; omega) | (simp; done) | (simp; omega) | (intro hg; simp at hg; done) | (intro hg; simp at hg ⊢; first | omega | exact hg | grind))))
            refine hK18 _ _ ?_
            try clear hK18 K18
            refine AWp.mask [true, true, true, false, false, false, false, false, false, false, false, false, false, false, false, true] rfl ?_
            simp only [go_sem]
            refine AWp.cond _ rfl (fun hc4 => ?_) (fun hc4 => ?_)
            · skip
              try simp only [decide_eq_true_eq, decide_eq_false_iff_not, Bool.not_eq_true', Bool.not_eq_false', Bool.and_eq_true, Bool.or_eq_true, Bool.and_eq_false_iff, Bool.or_eq_false_iff, Int.not_lt, Int.not_le, beq_iff_eq, beq_eq_false_iff_ne, ne_eq, Bool.not_eq_true, Bool.not_eq_false] at hc4
              have he : isEs (t.text.getD k 0) = true := by simp only [isEs, Bool.or_eq_true, decide_eq_true_eq]; exact hc4
              refine AWp.rk fun K19 hK19 => ?_
              try simp only [go_sem, tcast, tkA, fb1, ft0, hki]
              (repeat (with_reducible refine And.intro ?_ ?_; (first | omega | (intro _; omega) | decide | (exact nfB) | (intro _; exact nfB) | (intro hg; refine ⟨hg, ?_⟩; omega) | (simp; done) | (simp; omega) | (intro hg; simp at hg; done) | (intro hg; simp at hg ⊢; first | omega | exact hg | grind))))
              refine DW.app rfl rfl rfl rfl (show slI Tryd.prog 66 = some (5, 1, 1) by simp only [go_sem]) rfl rfl (by simp only [go_sem, tcast, tkA, fb1, ft0, hki]) (by first | exact .inl rfl | exact .inr rfl) (by first | omega | (simp only [go_sem] <;> omega) | (simp only [go_sem, List.length_take, List.length_map, List.length_append, List.length_cons, List.length_nil] <;> omega) | (simp <;> omega)) (by first | omega | (simp only [go_sem] <;> omega) | (simp only [go_sem, List.length_take, List.length_map, List.length_append, List.length_cons, List.length_nil] <;> omega) | (simp <;> omega)) fun t1 ft1 => ?_
              try simp only [freshT] at ft1
              try simp only [go_sem, tcast, tkA, fb1, ft0, hki, ft1]
              (repeat (with_reducible refine And.intro ?_ ?_; (first | omega | (intro _; omega) | decide | (exact nfB) | (intro _; exact nfB) | (intro hg; refine ⟨hg, ?_⟩; omega) | (simp; done) | (simp; omega) | (intro hg; simp at hg; done) | (intro hg; simp at hg ⊢; first | omega | exact hg | grind))))
              refine hK19 _ _ ?_
              try clear hK19 K19
              refine thenQ_n ?_
              refine hK17 _ _ ?_
              try clear hK17 K17
              refine AWp.mask [true, true, true] rfl ?_
              simp only [go_sem]
              refine AWp.rk fun K20 hK20 => ?_
              try simp only [go_sem, tcast, tkA, fb1, ft0, hki, ft1]
              (repeat (with_reducible refine And.intro ?_ ?_; (first | omega | (intro _; omega) | decide | (exact nfB) | (intro _; exact nfB) | (intro hg; refine ⟨hg, ?_⟩; omega) | (simp; done) | (simp; omega) | (intro hg; simp at hg; done) | (intro hg; simp at hg ⊢; first | omega | exact hg | grind))))
              refine DW.app rfl rfl rfl rfl (show slI Tryd.prog 66 = some (5, 1, 1) by simp only [go_sem]) rfl rfl (by simp only [go_sem, tcast, tkA, fb1, ft0, hki, ft1]) (by first | exact .inl rfl | exact .inr rfl) (by first | omega | (simp only [go_sem] <;> omega) | (simp only [go_sem, List.length_take, List.length_map, List.length_append, List.length_cons, List.length_nil] <;> omega) | (simp <;> omega)) (by first | omega | (simp only [go_sem] <;> omega) | (simp only [go_sem, List.length_take, List.length_map, List.length_append, List.length_cons, List.length_nil] <;> omega) | (simp <;> omega)) fun t2 ft2 => ?_
              try simp only [freshT] at ft2
              try simp only [go_sem, tcast, tkA, fb1, ft0, hki, ft1, ft2]
              (repeat (with_reducible refine And.intro ?_ ?_; (first | omega | (intro _; omega) | decide | (exact nfB) | (intro _; exact nfB) | (intro hg; refine ⟨hg, ?_⟩; omega) | (simp; done) | (simp; omega) | (intro hg; simp at hg; done) | (intro hg; simp at hg ⊢; first | omega | exact hg | grind))))
              refine hK20 _ _ ?_
              try clear hK20 K20
              refine blkQ_n (thenQ_n ?_)
              refine hK16 _ _ ?_
              try clear hK16 K16
              refine AWp.mask [true, true, true] rfl ?_
              simp only [go_sem]
              refine AWp.rk fun K21 hK21 => ?_
              try simp only [go_sem, tcast, tkA, fb1, ft0, hki, ft1, ft2]
              (repeat (with_reducible refine And.intro ?_ ?_; (first | omega | (intro _; omega) | decide | (exact nfB) | (intro _; exact nfB) | (intro hg; refine ⟨hg, ?_⟩; omega) | (simp; done) | (simp; omega) | (intro hg; simp at hg; done) | (intro hg; simp at hg ⊢; first | omega | exact hg | grind))))
              refine hK21 _ _ ?_
              try clear hK21 K21
              refine thenQ_n ?_
              refine EndS.mk [true] [false, true, true] [] [] [b1] [t2] rfl ?_ ?_
              · (try simp only [go_sem, tcast, tkA, fb1, ft0, hki, ft1, ft2]) <;> try rfl
              refine .e ⟨_, ?_, k + 1, t2, rfl, ?_, ?_, ?_⟩
              · first | omega | (simp; omega) | (grind)
              · (try simp only [go_sem, tcast, tkA, fb1, ft0, hki, ft1, ft2]) <;> first | exact ⟨rfl⟩ | (constructor; rw [es_t hlt he]; simp only [← brApp, brOne, br92]; done)
              · (try simp only [go_sem, tcast, tkA, fb1, ft0, hki, ft1, ft2]) <;> first | exact ⟨rfl⟩ | (constructor; simp; done)
              all_goals (first | omega | assumption | grind)
            · skip
              try simp only [decide_eq_true_eq, decide_eq_false_iff_not, Bool.not_eq_true', Bool.not_eq_false', Bool.and_eq_true, Bool.or_eq_true, Bool.and_eq_false_iff, Bool.or_eq_false_iff, Int.not_lt, Int.not_le, beq_iff_eq, beq_eq_false_iff_ne, ne_eq, Bool.not_eq_true, Bool.not_eq_false] at hc4
              have he : isEs (t.text.getD k 0) = false := by simp only [isEs, Bool.or_eq_false_iff, decide_eq_false_iff_not]; exact hc4
              refine AWp.skip ?_
              refine thenQ_n ?_
              refine hK17 _ _ ?_
              try clear hK17 K17
              refine AWp.rk fun K22 hK22 => ?_
              try simp only [go_sem, tcast, tkA, fb1, ft0, hki]
              (repeat (with_reducible refine And.intro ?_ ?_; (first | omega | (intro _; omega) | decide | (exact nfB) | (intro _; exact nfB) | (intro hg; refine ⟨hg, ?_⟩; omega) | (simp; done) | (simp; omega) | (intro hg; simp at hg; done) | (intro hg; simp at hg ⊢; first | omega | exact hg | grind))))
              refine DW.app rfl rfl rfl rfl (show slI Tryd.prog 66 = some (5, 1, 1) by simp only [go_sem]) rfl rfl (by simp only [go_sem, tcast, tkA, fb1, ft0, hki]) (by first | exact .inl rfl | exact .inr rfl) (by first | omega | (simp only [go_sem] <;> omega) | (simp only [go_sem, List.length_take, List.length_map, List.length_append, List.length_cons, List.length_nil] <;> omega) | (simp <;> omega)) (by first | omega | (simp only [go_sem] <;> omega) | (simp only [go_sem, List.length_take, List.length_map, List.length_append, List.length_cons, List.length_nil] <;> omega) | (simp <;> omega)) fun t3 ft3 => ?_
              try simp only [freshT] at ft3
              try simp only [go_sem, tcast, tkA, fb1, ft0, hki, ft3]
              (repeat (with_reducible refine And.intro ?_ ?_; (first | omega | (intro _; omega) | decide | (exact nfB) | (intro _; exact nfB) | (intro hg; refine ⟨hg, ?_⟩; omega) | (simp; done) | (simp; omega) | (intro hg; simp at hg; done) | (intro hg; simp at hg ⊢; first | omega | exact hg | grind))))
              refine hK22 _ _ ?_
              try clear hK22 K22
              refine blkQ_n (thenQ_n ?_)
              refine hK16 _ _ ?_
              try clear hK16 K16
              refine AWp.mask [true, true, true] rfl ?_
              simp only [go_sem]
              refine AWp.rk fun K23 hK23 => ?_
              try simp only [go_sem, tcast, tkA, fb1, ft0, hki, ft3]
              (repeat (with_reducible refine And.intro ?_ ?_; (first | omega | (intro _; omega) | decide | (exact nfB) | (intro _; exact nfB) | (intro hg; refine ⟨hg, ?_⟩; omega) | (simp; done) | (simp; omega) | (intro hg; simp at hg; done) | (intro hg; simp at hg ⊢; first | omega | exact hg | grind))))
              refine hK23 _ _ ?_
              try clear hK23 K23
              refine thenQ_n ?_
              refine EndS.mk [true] [false, true, true] [] [] [b1] [t3] rfl ?_ ?_
              · (try simp only [go_sem, tcast, tkA, fb1, ft0, hki, ft3]) <;> try rfl
              refine .e ⟨_, ?_, k + 1, t3, rfl, ?_, ?_, ?_⟩
              · first | omega | (simp; omega) | (grind)
              · (try simp only [go_sem, tcast, tkA, fb1, ft0, hki, ft3]) <;> first | exact ⟨rfl⟩ | (constructor; rw [es_f hlt he]; simp only [← brApp, brOne, br92]; done)
              · (try simp only [go_sem, tcast, tkA, fb1, ft0, hki, ft3]) <;> first | exact ⟨rfl⟩ | (constructor; simp; done)
              all_goals (first | omega | assumption | grind)
          · skip
            try simp only [decide_eq_true_eq, decide_eq_false_iff_not, Bool.not_eq_true', Bool.not_eq_false', Bool.and_eq_true, Bool.or_eq_true, Bool.and_eq_false_iff, Bool.or_eq_false_iff, Int.not_lt, Int.not_le, beq_iff_eq, beq_eq_false_iff_ne, ne_eq, Bool.not_eq_true, Bool.not_eq_false] at hc3
            have hk : t.text.take k = t.text := List.take_of_length_le (by omega)
            have hel := escT_len t.text
            refine AWp.exit ?_
            refine thenQ_e (thenQ_e (blkQ_e (thenQ_n ?_)))
            refine hK12 _ _ ?_
            try clear hK12 K12
            refine AWp.rs fun K24 hK24 => ?_
            try simp only [go_sem, tcast, tkA, fb1, ft0, hk, bytesOf_byteRows]
            (repeat (with_reducible refine And.intro ?_ ?_; (first | omega | (intro _; omega) | decide | (exact nfB) | (intro _; exact nfB) | (intro hg; refine ⟨hg, ?_⟩; omega) | (simp; done) | (simp; omega) | (intro hg; simp at hg; done) | (intro hg; simp at hg ⊢; first | omega | exact hg | grind))))
            refine hK24 _ _ ?_
            try clear hK24 K24
            refine AWp.mask [false, true] rfl ?_
            simp only [go_sem]
            refine AWp.ret ?_
            try simp only [go_sem, tcast, tkA, fb1, ft0, hk, bytesOf_byteRows]
            rw [txt_4 (by omega)]
end Go.Proofs.YthpkjmbdjnelfaaDoor

namespace Go.Proofs.YthpkjmbdjnelfaaDoor
set_option linter.unusedSimpArgs false
set_option linter.unusedVariables false
/-- tokens joined -/
def joinF : List Tk → Tx → Tx × Int
  | [], s => (s, 0)
  | t :: r, s => if ¬ tkE t = 0 then ([], tkE t) else if 2000 < (s ++ (txtT t ++ [32])).length then ([], 1) else joinF r (s ++ (txtT t ++ [32]))
def joinV (l : List Tk) : Tx × Int := if 400 < l.length then ([], 5) else joinF l []
theorem jf_e {l : List Tk} {k : Nat} {s : Tx} (h : k < l.length) (he : ¬ tkE (l[k]'h) = 0) : joinF (l.drop k) s = ([], tkE (l[k]'h)) := by rw [List.drop_eq_getElem_cons h, joinF, if_pos he]
theorem jf_1 {l : List Tk} {k : Nat} {s : Tx} (h : k < l.length) (he : tkE (l[k]'h) = 0) (hs : 2000 < (s ++ (txtT (l[k]'h) ++ [32])).length) : joinF (l.drop k) s = ([], 1) := by rw [List.drop_eq_getElem_cons h, joinF, if_neg (by simp [he]), if_pos hs]
theorem jf_t {l : List Tk} {k : Nat} {s : Tx} (h : k < l.length) (he : tkE (l[k]'h) = 0) (hs : ¬ 2000 < (s ++ (txtT (l[k]'h) ++ [32])).length) : joinF (l.drop k) s = joinF (l.drop (k + 1)) (s ++ (txtT (l[k]'h) ++ [32])) := by rw [List.drop_eq_getElem_cons h, joinF, if_neg (by simp [he]), if_neg hs]
theorem jf_end {l : List Tk} {k : Nat} {s : Tx} (h : l.length ≤ k) : joinF (l.drop k) s = (s, 0) := by rw [List.drop_eq_nil_of_le h]; rfl
theorem jv_5 {l : List Tk} (h : 400 < l.length) : joinV l = ([], 5) := if_pos h
theorem jv_0 {l : List Tk} (h : ¬ 400 < l.length) : joinV l = joinF l [] := if_neg h
theorem tk_num {t : Tk} (h : tkE t = 0) (h3 : t.kind = 3) : 0 ≤ t.num ∧ t.num ≤ 2147483647 := by
  unfold tkE faultOf at h
  rw [if_neg (by omega), if_pos h3] at h
  split at h
  · cases h
  · omega
theorem txtT_len {t : Tk} (he : tkE t = 0) (hz : t.text.length ≤ 1048576) : (txtT t).length ≤ 2097154 := by
  unfold txtT
  split
  · rename_i h3
    have := tk_num he h3
    have := decD_len t.num.toNat (by omega)
    omega
  split
  · simp; omega
  split
  · have := escT_len t.text
    simp; omega
  · omega
set_option maxRecDepth 4000 in
set_option maxHeartbeats 1000000 in
theorem TokensJoined_c (T : Tbl) (l : List Tk) (hz : ∀ t ∈ l, t.text.length ≤ 1048576) (hl : l.length ≤ 1000000000) : PC Tryd.prog T 16 [.d (.slc 3 (tksD l))] (.tup [.d (.str ((joinV l).1)), .d (.int .i64 ((joinV l).2))]) := by
  refine ⟨Tryd.call16, PCall.enterS Tryd.func16 rfl Tryd.ntmps16 rfl fun hb => ?_⟩
  simp only [go_sem, Tryd.results16]
  refine AWp.rs fun K1 hK1 => ?_
  try simp only [go_sem, tcast, tkD]
  (repeat (with_reducible refine And.intro ?_ ?_; (first | omega | (intro _; omega) | decide | (exact nfB) | (intro _; exact nfB) | (intro hg; refine ⟨hg, ?_⟩; omega) | (simp; done) | (simp; omega) | (intro hg; simp at hg; done) | (intro hg; simp at hg ⊢; first | omega | exact hg | grind))))
  refine hK1 _ _ ?_
  try clear hK1 K1
  refine AWp.seq fun K2 hK2 => ?_
  refine AWp.rs fun K3 hK3 => ?_
  try simp only [go_sem, tcast, tkD]
  (repeat (with_reducible refine And.intro ?_ ?_; (first | omega | (intro _; omega) | decide | (exact nfB) | (intro _; exact nfB) | (intro hg; refine ⟨hg, ?_⟩; omega) | (simp; done) | (simp; omega) | (intro hg; simp at hg; done) | (intro hg; simp at hg ⊢; first | omega | exact hg | grind))))
  refine hK3 _ _ ?_
  try clear hK3 K3
  refine AWp.mask [true, false, false, false, false, true] rfl ?_
  simp only [go_sem]
  refine AWp.cond _ rfl (fun hc0 => ?_) (fun hc0 => ?_)
  · skip
    try simp only [decide_eq_true_eq, decide_eq_false_iff_not, Bool.not_eq_true', Bool.not_eq_false', Bool.and_eq_true, Bool.or_eq_true, Bool.and_eq_false_iff, Bool.or_eq_false_iff, Int.not_lt, Int.not_le, beq_iff_eq, beq_eq_false_iff_ne, ne_eq, Bool.not_eq_true, Bool.not_eq_false] at hc0
    refine AWp.rs fun K4 hK4 => ?_
    try simp only [go_sem, tcast, tkD]
    (repeat (with_reducible refine And.intro ?_ ?_; (first | omega | (intro _; omega) | decide | (exact nfB) | (intro _; exact nfB) | (intro hg; refine ⟨hg, ?_⟩; omega) | (simp; done) | (simp; omega) | (intro hg; simp at hg; done) | (intro hg; simp at hg ⊢; first | omega | exact hg | grind))))
    refine hK4 _ _ ?_
    try clear hK4 K4
    refine AWp.ret ?_
    try simp only [go_sem, tcast, tkD]
    rw [jv_5 (by omega)]; simp [LeA, LeL, LeD]
  · skip
    try simp only [decide_eq_true_eq, decide_eq_false_iff_not, Bool.not_eq_true', Bool.not_eq_false', Bool.and_eq_true, Bool.or_eq_true, Bool.and_eq_false_iff, Bool.or_eq_false_iff, Int.not_lt, Int.not_le, beq_iff_eq, beq_eq_false_iff_ne, ne_eq, Bool.not_eq_true, Bool.not_eq_false] at hc0
    have h400 : ¬ 400 < l.length := by omega
    refine AWp.skip ?_
    refine thenQ_n ?_
    refine hK2 _ _ ?_
    try clear hK2 K2
    refine AWp.rs fun K5 hK5 => ?_
    try simp only [go_sem, tcast, tkD]
    (repeat (with_reducible refine And.intro ?_ ?_; (first | omega | (intro _; omega) | decide | (exact nfB) | (intro _; exact nfB) | (intro hg; refine ⟨hg, ?_⟩; omega) | (simp; done) | (simp; omega) | (intro hg; simp at hg; done) | (intro hg; simp at hg ⊢; first | omega | exact hg | grind))))
    refine hK5 _ _ ?_
    try clear hK5 K5
    refine AWp.seq fun K6 hK6 => ?_
    refine AWp.rs fun K7 hK7 => ?_
    try simp only [go_sem, tcast, tkD]
    (repeat (with_reducible refine And.intro ?_ ?_; (first | omega | (intro _; omega) | decide | (exact nfB) | (intro _; exact nfB) | (intro hg; refine ⟨hg, ?_⟩; omega) | (simp; done) | (simp; omega) | (intro hg; simp at hg; done) | (intro hg; simp at hg ⊢; first | omega | exact hg | grind))))
    refine hK7 _ _ ?_
    try clear hK7 K7
    refine AWp.block ?_
    refine AWp.mask [true, true, true] rfl ?_
    simp only [go_sem]
    refine AWp.loopS [true] [false, true, true] (fun n lc hc => ∃ (k : Nat) (s : Tx), n = l.length - k ∧ EqS lc [(4, .d (.str s)), (5, .d (.int .i64 k))] ∧ EqS hc (⟨[], []⟩) ∧ (k ≤ l.length) ∧ (s.length ≤ 2000) ∧ (joinF l [] = joinF (l.drop k) s)) rfl ?_ ?_
    · refine ⟨_, 0, [], rfl, ?_, ?_, ?_, ?_, ?_⟩
      · (try simp only [go_sem, tcast, tkD]) <;> first | exact ⟨rfl⟩ | (constructor; simp; done)
      · (try simp only [go_sem, tcast, tkD]) <;> first | exact ⟨rfl⟩ | (constructor; simp; done)
      all_goals (first | omega | rfl | (simp; done))
    · rintro _ _ _ ⟨k, s, rfl, ⟨rfl⟩, ⟨rfl⟩, h1, h2, h3⟩
      simp only [go_sem]
      refine AWp.seq fun K8 hK8 => ?_
      refine AWp.rs fun K9 hK9 => ?_
      try simp only [go_sem, tcast, tkD]
      (repeat (with_reducible refine And.intro ?_ ?_; (first | omega | (intro _; omega) | decide | (exact nfB) | (intro _; exact nfB) | (intro hg; refine ⟨hg, ?_⟩; omega) | (simp; done) | (simp; omega) | (intro hg; simp at hg; done) | (intro hg; simp at hg ⊢; first | omega | exact hg | grind))))
      refine hK9 _ _ ?_
      try clear hK9 K9
      refine AWp.cond _ rfl (fun hc1 => ?_) (fun hc1 => ?_)
      · skip
        try simp only [decide_eq_true_eq, decide_eq_false_iff_not, Bool.not_eq_true', Bool.not_eq_false', Bool.and_eq_true, Bool.or_eq_true, Bool.and_eq_false_iff, Bool.or_eq_false_iff, Int.not_lt, Int.not_le, beq_iff_eq, beq_eq_false_iff_ne, ne_eq, Bool.not_eq_true, Bool.not_eq_false] at hc1
        have hlt : k < l.length := by omega
        have hki : (k : Int) < (l.length : Int) := by omega
        have hzk := hz _ (List.getElem_mem hlt)
        refine AWp.skip ?_
        refine thenQ_n ?_
        refine hK8 _ _ ?_
        try clear hK8 K8
        refine AWp.mask [true, true, true] rfl ?_
        simp only [go_sem]
        refine AWp.seq fun K10 hK10 => ?_
        refine AWp.block ?_
        refine AWp.rs fun K11 hK11 => ?_
        try simp only [go_sem, tcast, tkD, tksD_get l k _ hlt, hki]
        (repeat (with_reducible refine And.intro ?_ ?_; (first | omega | (intro _; omega) | decide | (exact nfB) | (intro _; exact nfB) | (intro hg; refine ⟨hg, ?_⟩; omega) | (simp; done) | (simp; omega) | (intro hg; simp at hg; done) | (intro hg; simp at hg ⊢; first | omega | exact hg | grind))))
        refine DW.pcr rfl rfl rfl rfl (tkFault_c T (l[k]'hlt)) rfl rfl ?_
        try simp only [go_sem, tcast, tkD, tksD_get l k _ hlt, hki]
        (repeat (with_reducible refine And.intro ?_ ?_; (first | omega | (intro _; omega) | decide | (exact nfB) | (intro _; exact nfB) | (intro hg; refine ⟨hg, ?_⟩; omega) | (simp; done) | (simp; omega) | (intro hg; simp at hg; done) | (intro hg; simp at hg ⊢; first | omega | exact hg | grind))))
        refine hK11 _ _ ?_
        try clear hK11 K11
        refine AWp.mask [true, true, true, true] rfl ?_
        simp only [go_sem]
        refine AWp.seq fun K12 hK12 => ?_
        refine AWp.rs fun K13 hK13 => ?_
        try simp only [go_sem, tcast, tkD, tksD_get l k _ hlt, hki]
        (repeat (with_reducible refine And.intro ?_ ?_; (first | omega | (intro _; omega) | decide | (exact nfB) | (intro _; exact nfB) | (intro hg; refine ⟨hg, ?_⟩; omega) | (simp; done) | (simp; omega) | (intro hg; simp at hg; done) | (intro hg; simp at hg ⊢; first | omega | exact hg | grind))))
        refine hK13 _ _ ?_
        try clear hK13 K13
        refine AWp.cond _ rfl (fun hc2 => ?_) (fun hc2 => ?_)
        · skip
          try simp only [decide_eq_true_eq, decide_eq_false_iff_not, Bool.not_eq_true', Bool.not_eq_false', Bool.and_eq_true, Bool.or_eq_true, Bool.and_eq_false_iff, Bool.or_eq_false_iff, Int.not_lt, Int.not_le, beq_iff_eq, beq_eq_false_iff_ne, ne_eq, Bool.not_eq_true, Bool.not_eq_false] at hc2
          refine AWp.rs fun K14 hK14 => ?_
          try simp only [go_sem, tcast, tkD, tksD_get l k _ hlt, hki]
          (repeat (with_reducible refine And.intro ?_ ?_; (first | omega | (intro _; omega) | decide | (exact nfB) | (intro _; exact nfB) | (intro hg; refine ⟨hg, ?_⟩; omega) | (simp; done) | (simp; omega) | (intro hg; simp at hg; done) | (intro hg; simp at hg ⊢; first | omega | exact hg | grind))))
          refine hK14 _ _ ?_
          try clear hK14 K14
          refine AWp.mask [false, true, true] rfl ?_
          simp only [go_sem]
          refine AWp.ret ?_
          try simp only [go_sem, tcast, tkD, tksD_get l k _ hlt, hki]
          rw [jv_0 h400, h3, jf_e hlt hc2]; simp [LeA, LeL, LeD]
        · skip
          try simp only [decide_eq_true_eq, decide_eq_false_iff_not, Bool.not_eq_true', Bool.not_eq_false', Bool.and_eq_true, Bool.or_eq_true, Bool.and_eq_false_iff, Bool.or_eq_false_iff, Int.not_lt, Int.not_le, beq_iff_eq, beq_eq_false_iff_ne, ne_eq, Bool.not_eq_true, Bool.not_eq_false] at hc2
          have he : tkE (l[k]'hlt) = 0 := by omega
          have htl := txtT_len he hzk
          refine AWp.skip ?_
          refine thenQ_n ?_
          refine hK12 _ _ ?_
          try clear hK12 K12
          refine AWp.rs fun K15 hK15 => ?_
          try simp only [go_sem, tcast, tkD, tksD_get l k _ hlt, hki]
          (repeat (with_reducible refine And.intro ?_ ?_; (first | omega | (intro _; omega) | decide | (exact nfB) | (intro _; exact nfB) | (intro hg; refine ⟨hg, ?_⟩; omega) | (simp; done) | (simp; omega) | (intro hg; simp at hg; done) | (intro hg; simp at hg ⊢; first | omega | exact hg | grind))))
          refine DW.pcr rfl rfl rfl rfl (tokenText_c T (l[k]'hlt) (fun h => tk_num he h) hzk) rfl rfl ?_
          try simp only [go_sem, tcast, tkD, tksD_get l k _ hlt, hki]
          (repeat (with_reducible refine And.intro ?_ ?_; (first | omega | (intro _; omega) | decide | (exact nfB) | (intro _; exact nfB) | (intro hg; refine ⟨hg, ?_⟩; omega) | (simp; done) | (simp; omega) | (intro hg; simp at hg; done) | (intro hg; simp at hg ⊢; first | omega | exact hg | grind))))
          refine hK15 _ _ ?_
          try clear hK15 K15
          refine AWp.mask [true, true, true] rfl ?_
          simp only [go_sem]
          refine AWp.rs fun K16 hK16 => ?_
          try simp only [go_sem, tcast, tkD, tksD_get l k _ hlt, hki]
          (repeat (with_reducible refine And.intro ?_ ?_; (first | omega | (intro _; omega) | decide | (exact nfB) | (intro _; exact nfB) | (intro hg; refine ⟨hg, ?_⟩; omega) | (simp; done) | (simp; omega) | (intro hg; simp at hg; done) | (intro hg; simp at hg ⊢; first | omega | exact hg | grind))))
          refine hK16 _ _ ?_
          try clear hK16 K16
          refine AWp.cond _ rfl (fun hc3 => ?_) (fun hc3 => ?_)
          · skip
            try simp only [decide_eq_true_eq, decide_eq_false_iff_not, Bool.not_eq_true', Bool.not_eq_false', Bool.and_eq_true, Bool.or_eq_true, Bool.and_eq_false_iff, Bool.or_eq_false_iff, Int.not_lt, Int.not_le, beq_iff_eq, beq_eq_false_iff_ne, ne_eq, Bool.not_eq_true, Bool.not_eq_false] at hc3
            refine AWp.rs fun K17 hK17 => ?_
            try simp only [go_sem, tcast, tkD, tksD_get l k _ hlt, hki]
            (repeat (with_reducible refine And.intro ?_ ?_; (first | omega | (intro _; omega) | decide | (exact nfB) | (intro _; exact nfB) | (intro hg; refine ⟨hg, ?_⟩; omega) | (simp; done) | (simp; omega) | (intro hg; simp at hg; done) | (intro hg; simp at hg ⊢; first | omega | exact hg | grind))))
            refine hK17 _ _ ?_
            try clear hK17 K17
            refine AWp.mask [false, true, true] rfl ?_
            simp only [go_sem]
            refine AWp.ret ?_
            try simp only [go_sem, tcast, tkD, tksD_get l k _ hlt, hki]
            rw [jv_0 h400, h3, jf_1 hlt he (by rw [← List.append_assoc]; omega)]; simp [LeA, LeL, LeD]
          · skip
            try simp only [decide_eq_true_eq, decide_eq_false_iff_not, Bool.not_eq_true', Bool.not_eq_false', Bool.and_eq_true, Bool.or_eq_true, Bool.and_eq_false_iff, Bool.or_eq_false_iff, Int.not_lt, Int.not_le, beq_iff_eq, beq_eq_false_iff_ne, ne_eq, Bool.not_eq_true, Bool.not_eq_false] at hc3
            have hns : (s ++ (txtT (l[k]'hlt) ++ [32])).length ≤ 2000 := by rw [← List.append_assoc]; omega
            refine AWp.skip ?_
            refine blkQ_n (thenQ_n ?_)
            refine hK10 _ _ ?_
            try clear hK10 K10
            refine AWp.rk fun K18 hK18 => ?_
            try simp only [go_sem, tcast, tkD, tksD_get l k _ hlt, hki]
            (repeat (with_reducible refine And.intro ?_ ?_; (first | omega | (intro _; omega) | decide | (exact nfB) | (intro _; exact nfB) | (intro hg; refine ⟨hg, ?_⟩; omega) | (simp; done) | (simp; omega) | (intro hg; simp at hg; done) | (intro hg; simp at hg ⊢; first | omega | exact hg | grind))))
            refine hK18 _ _ ?_
            try clear hK18 K18
            refine thenQ_n ?_
            refine EndS.mkr [true] [false, true, true] rfl ?_ ?_
            · (try simp only [go_sem, tcast, tkD, tksD_get l k _ hlt, hki]) <;> try rfl
            refine .e ⟨_, ?_, k + 1, (s ++ (txtT (l[k]'hlt) ++ [32])), rfl, ?_, ?_, ?_, ?_, ?_⟩
            · first | omega | (simp; omega) | (grind)
            · (try simp only [go_sem, tcast, tkD, tksD_get l k _ hlt, hki]) <;> first | exact ⟨rfl⟩ | (constructor; simp; done)
            · (try simp only [go_sem, tcast, tkD, tksD_get l k _ hlt, hki]) <;> first | exact ⟨rfl⟩ | (constructor; simp; done)
            · omega
            · omega
            · rw [h3, jf_t hlt he (by omega)]
      · skip
        try simp only [decide_eq_true_eq, decide_eq_false_iff_not, Bool.not_eq_true', Bool.not_eq_false', Bool.and_eq_true, Bool.or_eq_true, Bool.and_eq_false_iff, Bool.or_eq_false_iff, Int.not_lt, Int.not_le, beq_iff_eq, beq_eq_false_iff_ne, ne_eq, Bool.not_eq_true, Bool.not_eq_false] at hc1
        refine AWp.exit ?_
        refine thenQ_e (thenQ_e (blkQ_e (thenQ_n ?_)))
        refine hK6 _ _ ?_
        try clear hK6 K6
        refine AWp.mask [false, true] rfl ?_
        simp only [go_sem]
        refine AWp.rs fun K19 hK19 => ?_
        try simp only [go_sem, tcast, tkD]
        (repeat (with_reducible refine And.intro ?_ ?_; (first | omega | (intro _; omega) | decide | (exact nfB) | (intro _; exact nfB) | (intro hg; refine ⟨hg, ?_⟩; omega) | (simp; done) | (simp; omega) | (intro hg; simp at hg; done) | (intro hg; simp at hg ⊢; first | omega | exact hg | grind))))
        refine hK19 _ _ ?_
        try clear hK19 K19
        refine AWp.ret ?_
        try simp only [go_sem, tcast, tkD]
        rw [jv_0 h400, h3, jf_end (by omega)]; simp [LeA, LeL, LeD]
set_option maxRecDepth 4000 in
set_option maxHeartbeats 1000000 in
theorem tokens_c (T : Tbl) (l : List Tk) (hl : l.length ≤ 1000000000) : PC Tryd.prog T 14 [.d (.slc 3 (tksD l))] (.d (.slc 3 (tksD l))) := by
  refine ⟨Tryd.call14, PCall.enterS Tryd.func14 rfl Tryd.ntmps14 rfl fun hb => ?_⟩
  simp only [go_sem, Tryd.results14]
  refine AWp.rs fun K1 hK1 => ?_
  try simp only [go_sem]
  (repeat (with_reducible refine And.intro ?_ ?_; (first | omega | (intro _; omega) | decide | (exact nfB) | (intro _; exact nfB) | (intro hg; refine ⟨hg, ?_⟩; omega) | (simp; done) | (simp; omega) | (intro hg; simp at hg; done) | (intro hg; simp at hg ⊢; first | omega | exact hg | grind))))
  refine hK1 _ _ ?_
  try clear hK1 K1
  refine AWp.rs fun K2 hK2 => ?_
  try simp only [go_sem]
  (repeat (with_reducible refine And.intro ?_ ?_; (first | omega | (intro _; omega) | decide | (exact nfB) | (intro _; exact nfB) | (intro hg; refine ⟨hg, ?_⟩; omega) | (simp; done) | (simp; omega) | (intro hg; simp at hg; done) | (intro hg; simp at hg ⊢; first | omega | exact hg | grind))))
  refine DW.appNil rfl rfl rfl rfl (show slI Tryd.prog 37 = some (70, 3, 32) by simp only [go_sem]) rfl rfl (by first | exact .inl rfl | exact .inr rfl) (by (try simp only [go_sem, tksD_len]); omega) (by (try simp only [go_sem, tksD_len]); omega) fun t1 ft1 => ?_
  try simp only [freshT] at ft1
  try simp only [go_sem, ft1]
  (repeat (with_reducible refine And.intro ?_ ?_; (first | omega | (intro _; omega) | decide | (exact nfB) | (intro _; exact nfB) | (intro hg; refine ⟨hg, ?_⟩; omega) | (simp; done) | (simp; omega) | (intro hg; simp at hg; done) | (intro hg; simp at hg ⊢; first | omega | exact hg | grind))))
  refine hK2 _ _ ?_
  try clear hK2 K2
  refine AWp.ret ?_
  try simp only [go_sem, ft1]
  try simp [LeA, LeL, LeD]
set_option maxRecDepth 4000 in
set_option maxHeartbeats 1000000 in
theorem sameTokens_c (T : Tbl) (l : List Tk) (hl : l.length ≤ 1000000000) : PC Tryd.prog T 17 [.d (.slc 3 (tksD l)), .d (.slc 3 (tksD l))] (.d (.bool true)) := by
  refine ⟨Tryd.call17, PCall.enterS Tryd.func17 rfl Tryd.ntmps17 rfl fun hb => ?_⟩
  simp only [go_sem, Tryd.results17]
  refine AWp.rs fun K1 hK1 => ?_
  try simp only [go_sem, tcast, tkD]
  (repeat (with_reducible refine And.intro ?_ ?_; (first | omega | (intro _; omega) | decide | (exact nfB) | (intro _; exact nfB) | (intro hg; refine ⟨hg, ?_⟩; omega) | (simp; done) | (simp; omega) | (intro hg; simp at hg; done) | (intro hg; simp at hg ⊢; first | omega | exact hg | grind))))
  refine hK1 _ _ ?_
  try clear hK1 K1
  refine AWp.seq fun K2 hK2 => ?_
  refine AWp.rs fun K3 hK3 => ?_
  try simp only [go_sem, tcast, tkD]
  (repeat (with_reducible refine And.intro ?_ ?_; (first | omega | (intro _; omega) | decide | (exact nfB) | (intro _; exact nfB) | (intro hg; refine ⟨hg, ?_⟩; omega) | (simp; done) | (simp; omega) | (intro hg; simp at hg; done) | (intro hg; simp at hg ⊢; first | omega | exact hg | grind))))
  refine hK3 _ _ ?_
  try clear hK3 K3
  refine AWp.mask [true, true, false, false, false, false, false, true] rfl ?_
  simp only [go_sem]
  refine AWp.cond _ rfl (fun hc0 => ?_) (fun hc0 => ?_)
  · skip
    exact absurd hc0 (by simp)
  · skip
    try simp only [decide_eq_true_eq, decide_eq_false_iff_not, Bool.not_eq_true', Bool.not_eq_false', Bool.and_eq_true, Bool.or_eq_true, Bool.and_eq_false_iff, Bool.or_eq_false_iff, Int.not_lt, Int.not_le, beq_iff_eq, beq_eq_false_iff_ne, ne_eq, Bool.not_eq_true, Bool.not_eq_false] at hc0
    refine AWp.skip ?_
    refine thenQ_n ?_
    refine hK2 _ _ ?_
    try clear hK2 K2
    refine AWp.seq fun K4 hK4 => ?_
    refine AWp.rs fun K5 hK5 => ?_
    try simp only [go_sem, tcast, tkD]
    (repeat (with_reducible refine And.intro ?_ ?_; (first | omega | (intro _; omega) | decide | (exact nfB) | (intro _; exact nfB) | (intro hg; refine ⟨hg, ?_⟩; omega) | (simp; done) | (simp; omega) | (intro hg; simp at hg; done) | (intro hg; simp at hg ⊢; first | omega | exact hg | grind))))
    refine hK5 _ _ ?_
    try clear hK5 K5
    refine AWp.block ?_
    refine AWp.mask [true, true, true] rfl ?_
    simp only [go_sem]
    refine AWp.loopS [true, true] [false, false, true] (fun n lc hc => ∃ (k : Nat), n = l.length - k ∧ EqS lc [(5, .d (.int .i64 k))] ∧ EqS hc (⟨[], []⟩) ∧ (k ≤ l.length)) rfl ?_ ?_
    · refine ⟨_, 0, rfl, ?_, ?_, ?_⟩
      · (try simp only [go_sem, tcast, tkD]) <;> first | exact ⟨rfl⟩ | (constructor; simp; done)
      · (try simp only [go_sem, tcast, tkD]) <;> first | exact ⟨rfl⟩ | (constructor; simp; done)
      all_goals (first | omega | rfl | (simp; done) | (simp; omega) | assumption)
    · rintro _ _ _ ⟨k, rfl, ⟨rfl⟩, ⟨rfl⟩, h1⟩
      simp only [go_sem]
      refine AWp.seq fun K6 hK6 => ?_
      refine AWp.rs fun K7 hK7 => ?_
      try simp only [go_sem, tcast, tkD]
      (repeat (with_reducible refine And.intro ?_ ?_; (first | omega | (intro _; omega) | decide | (exact nfB) | (intro _; exact nfB) | (intro hg; refine ⟨hg, ?_⟩; omega) | (simp; done) | (simp; omega) | (intro hg; simp at hg; done) | (intro hg; simp at hg ⊢; first | omega | exact hg | grind))))
      refine hK7 _ _ ?_
      try clear hK7 K7
      refine AWp.cond _ rfl (fun hc1 => ?_) (fun hc1 => ?_)
      · skip
        try simp only [decide_eq_true_eq, decide_eq_false_iff_not, Bool.not_eq_true', Bool.not_eq_false', Bool.and_eq_true, Bool.or_eq_true, Bool.and_eq_false_iff, Bool.or_eq_false_iff, Int.not_lt, Int.not_le, beq_iff_eq, beq_eq_false_iff_ne, ne_eq, Bool.not_eq_true, Bool.not_eq_false] at hc1
        have hlt : k < l.length := by omega
        have hki : (k : Int) < (l.length : Int) := by omega
        refine AWp.skip ?_
        refine thenQ_n ?_
        refine hK6 _ _ ?_
        try clear hK6 K6
        refine AWp.mask [true, true, true] rfl ?_
        simp only [go_sem]
        refine AWp.seq fun K8 hK8 => ?_
        refine AWp.block ?_
        refine AWp.ds true [0, 1, 2, 3, 4, 5, 6, 7, 8] rfl (by kernel_rfl) fun K9 hK9 => ?_
        try simp only [go_sem, tcast, tkD, tksD_get l k _ hlt, hki]
        (repeat (with_reducible refine And.intro ?_ ?_; (first | omega | (intro _; omega) | decide | (exact nfB) | (intro _; exact nfB) | (intro hg; refine ⟨hg, ?_⟩; omega) | (simp; done) | (simp; omega) | (intro hg; simp at hg; done) | (intro hg; simp at hg ⊢; first | omega | exact hg | grind))))
        refine hK9 _ _ ?_
        try clear hK9 K9
        refine AWp.mask [true, true, true, false, false, false, false, false, false, false, false, true] rfl ?_
        simp only [go_sem]
        refine AWp.cond _ rfl (fun hc2 => ?_) (fun hc2 => ?_)
        · skip
          exact absurd hc2 (by simp)
        · skip
          try simp only [decide_eq_true_eq, decide_eq_false_iff_not, Bool.not_eq_true', Bool.not_eq_false', Bool.and_eq_true, Bool.or_eq_true, Bool.and_eq_false_iff, Bool.or_eq_false_iff, Int.not_lt, Int.not_le, beq_iff_eq, beq_eq_false_iff_ne, ne_eq, Bool.not_eq_true, Bool.not_eq_false] at hc2
          refine AWp.skip ?_
          refine blkQ_n (thenQ_n ?_)
          refine hK8 _ _ ?_
          try clear hK8 K8
          refine AWp.rk fun K10 hK10 => ?_
          try simp only [go_sem, tcast, tkD, tksD_get l k _ hlt, hki]
          (repeat (with_reducible refine And.intro ?_ ?_; (first | omega | (intro _; omega) | decide | (exact nfB) | (intro _; exact nfB) | (intro hg; refine ⟨hg, ?_⟩; omega) | (simp; done) | (simp; omega) | (intro hg; simp at hg; done) | (intro hg; simp at hg ⊢; first | omega | exact hg | grind))))
          refine hK10 _ _ ?_
          try clear hK10 K10
          refine thenQ_n ?_
          refine EndS.mkr [true, true] [false, false, true] rfl ?_ ?_
          · (try simp only [go_sem, tcast, tkD, tksD_get l k _ hlt, hki]) <;> try rfl
          refine .e ⟨_, ?_, k + 1, rfl, ?_, ?_, ?_⟩
          · first | omega | (simp; omega) | (grind)
          · (try simp only [go_sem, tcast, tkD, tksD_get l k _ hlt, hki]) <;> first | exact ⟨rfl⟩ | (constructor; simp; done)
          · (try simp only [go_sem, tcast, tkD, tksD_get l k _ hlt, hki]) <;> first | exact ⟨rfl⟩ | (constructor; simp; done)
          all_goals (first | omega | assumption | grind)
      · skip
        try simp only [decide_eq_true_eq, decide_eq_false_iff_not, Bool.not_eq_true', Bool.not_eq_false', Bool.and_eq_true, Bool.or_eq_true, Bool.and_eq_false_iff, Bool.or_eq_false_iff, Int.not_lt, Int.not_le, beq_iff_eq, beq_eq_false_iff_ne, ne_eq, Bool.not_eq_true, Bool.not_eq_false] at hc1
        refine AWp.exit ?_
        refine thenQ_e (thenQ_e (blkQ_e (thenQ_n ?_)))
        refine hK4 _ _ ?_
        try clear hK4 K4
        refine AWp.mask [] rfl ?_
        simp only [go_sem]
        refine AWp.rs fun K11 hK11 => ?_
        try simp only [go_sem, tcast, tkD]
        (repeat (with_reducible refine And.intro ?_ ?_; (first | omega | (intro _; omega) | decide | (exact nfB) | (intro _; exact nfB) | (intro hg; refine ⟨hg, ?_⟩; omega) | (simp; done) | (simp; omega) | (intro hg; simp at hg; done) | (intro hg; simp at hg ⊢; first | omega | exact hg | grind))))
        refine hK11 _ _ ?_
        try clear hK11 K11
        refine AWp.ret ?_
        try simp only [go_sem, tcast, tkD]
        try simp [LeA, LeL, LeD]
end Go.Proofs.YthpkjmbdjnelfaaDoor

namespace Go.Proofs.YthpkjmbdjnelfaaDoor
open Go.RowKit
set_option linter.unusedSimpArgs false
set_option linter.unusedVariables false
theorem rep_ne {b c : UInt8} {new : Tx} (h : b ≠ c) : ∀ (k : Nat) (l : Tx), Lib.replaceK [c] new k (b :: l) = b :: Lib.replaceK [c] new k l
  | 0, l => rfl
  | k + 1, l => by
    have hp : List.isPrefixOf [c] (b :: l) = false := by simp [List.isPrefixOf]; exact fun e => h e.symm
    have hg := Lib.index_ge l [c]
    by_cases hm : Lib.index l [c] = -1
    · have h1 : Lib.index (b :: l) [c] = -1 := by rw [Lib.index]; simp [hp, hm]
      rw [Lib.replaceK, Lib.replaceK, h1, hm]; rfl
    · obtain ⟨i, hi⟩ := Int.eq_ofNat_of_zero_le (show 0 ≤ Lib.index l [c] by omega)
      have h1 : Lib.index (b :: l) [c] = (i + 1 : Nat) := by
        rw [Lib.index, if_neg (by simp [hp]), if_neg (by simpa using hm), hi]; rfl
      rw [Lib.replaceK_hit _ _ _ _ _ h1, Lib.replaceK_hit _ _ _ _ _ hi]
      simp [Nat.add_right_comm]
theorem rep_eq {c : UInt8} {new : Tx} (k : Nat) (l : Tx) : Lib.replaceK [c] new (k + 1) (c :: l) = new ++ Lib.replaceK [c] new k l := by
  have h1 : Lib.index (c :: l) [c] = (0 : Nat) := by rw [Lib.index]; simp [List.isPrefixOf]
  rw [Lib.replaceK_hit _ _ _ _ _ h1]; simp
theorem rep_one (c : UInt8) (new : Tx) (h : [c] ≠ new) (s : Tx) : Lib.replaceAll s [c] new = s.flatMap fun x => if x = c then new else [x] := by
  have hn : Lib.replaceNum s [c] (-1) = Lib.count s [c] := by rw [Lib.replaceNum, if_pos (.inl (by decide))]
  rw [Lib.replaceAll, Lib.replace, if_neg (by simpa using h), hn]
  clear hn
  induction s with
  | nil => simp [Lib.count_one, Lib.replaceK]
  | cons x s ih =>
    by_cases hx : x = c
    · subst hx
      rw [Lib.count_cons_eq, Nat.add_comm, rep_eq, ih]; simp
    · rw [Lib.count_cons_ne _ _ _ hx, rep_ne hx, ih]; simp [hx]
theorem esc_two (s : Tx) : Lib.replaceAll (Lib.replaceAll s [92] [92, 92]) [34] [92, 34] = escT s := by
  rw [rep_one 34 [92, 34] (by decide), rep_one 92 [92, 92] (by decide)]
  induction s with
  | nil => rfl
  | cons c s ih =>
    rw [List.flatMap_cons, List.flatMap_append, ih, escT]
    by_cases h1 : c = 92
    · subst h1; simp [isEs]
    · by_cases h2 : c = 34
      · subst h2; simp [isEs]
      · have h3 : ¬ (c.toNat : Int) = 92 := fun e => h1 (by apply UInt8.toNat_inj.1; simpa using Int.ofNat.inj e)
        have h4 : ¬ (c.toNat : Int) = 34 := fun e => h2 (by apply UInt8.toNat_inj.1; simpa using Int.ofNat.inj e)
        simp [h1, h2, isEs, h3, h4]
theorem rep_len (s : Tx) : (Lib.replaceAll s [92] [92, 92]).length ≤ 2 * s.length := by
  rw [rep_one 92 [92, 92] (by decide)]
  induction s with
  | nil => simp
  | cons c s ih =>
    rw [List.flatMap_cons, List.length_append, List.length_cons]
    split <;> simp only [List.length_cons, List.length_nil] <;> omega
end Go.Proofs.YthpkjmbdjnelfaaDoor

namespace Go.Proofs.YthpkjmbdjnelfaaDoor
open Go.RowKit
set_option linter.unusedSimpArgs false
set_option linter.unusedVariables false
theorem szA (l : List UInt8) : (⟨l.toArray⟩ : ByteArray).size = l.length := by show l.toArray.size = l.length; simp
set_option maxHeartbeats 1000000 in
set_option maxRecDepth 100000 in
theorem quote_any (s : ByteArray) (w : World) (hs : s.size ≤ 1048576) (h0 : Lib0 w) :
    Calls Tryd.prog 36 #[.string s] w fun e w' => e = .returned (.string ⟨(34 :: (escT s.data.toList ++ [34])).toArray⟩) ∧ Below w.heap.size w w' := by
  obtain ⟨hg, m, hm⟩ := h0
  have hs1 : s.data.toList.length = s.size := by rw [ByteArray.size]; simp
  have hl1 := rep_len s.data.toList
  have hl2 := escT_len s.data.toList
  have hz : (⟨(Lib.replaceAll s.data.toList [92] [92, 92]).toArray⟩ : ByteArray).size ≤ 2097152 := by rw [szA]; omega
  have hc1 := Lib.countB_le ⟨#[92]⟩ (by decide) s.size s (Nat.le_refl _)
  have hc2 := Lib.countB_le ⟨#[34]⟩ (by decide) _ (⟨(Lib.replaceAll s.data.toList [92] [92, 92]).toArray⟩ : ByteArray) (Nat.le_refl _)
  have n1 : (⟨#[92, 92]⟩ : ByteArray).size = 2 := rfl
  have n2 : (⟨#[92, 34]⟩ : ByteArray).size = 2 := rfl
  have q1 : ¬ 9223372036854775807 < 1 + (escT s.data.toList).length := by omega
  have q2 : ¬ 9223372036854775807 < 1 + (escT s.data.toList).length + 1 := by omega
  go_enter Tryd.func36, Tryd.ntmps36
  have tok : True := trivial
  go_wp2_with (first
    | (clear tok; go_at_call 76; refine (Tryd.strings_ReplaceAll s ⟨#[92]⟩ ⟨#[92, 92]⟩ m _ (by omega) hm (by decide) (by rw [n1]; omega)).mono ?_; rintro e w1 ⟨rfl, hb1⟩; have hm1 := (hb1.cell (p := ⟨4, 0, none⟩) hg).trans hm)
    | (go_at_call 76; refine (Tryd.strings_ReplaceAll ⟨(Lib.replaceAll s.data.toList [92] [92, 92]).toArray⟩ ⟨#[34]⟩ ⟨#[92, 34]⟩ m _ (by omega) hm1 (by decide) (by rw [n2]; omega)).mono ?_; rw [show Lib.replaceAll (⟨(Lib.replaceAll s.data.toList [92] [92, 92]).toArray⟩ : ByteArray).data.toList (⟨#[34]⟩ : ByteArray).data.toList (⟨#[92, 34]⟩ : ByteArray).data.toList = escT s.data.toList from esc_two _]; rintro e w2 ⟨rfl, hb2⟩))
  go_ret
  have e : ({ data := #[34] } ++ { data := (escT s.data.toList).toArray } ++ { data := #[34] } : ByteArray) = ⟨(34 :: (escT s.data.toList ++ [34])).toArray⟩ := by
    apply ByteArray.ext
    simp [ByteArray.data_append]
  refine ⟨?_, hb1.trans (hb2.mono hb1.size)⟩
  rw [← e]
  rfl
end Go.Proofs.YthpkjmbdjnelfaaDoor

namespace Go.Proofs.YthpkjmbdjnelfaaDoor
open Go.RowKit
set_option linter.unusedSimpArgs false
set_option linter.unusedVariables false
set_option maxHeartbeats 2000000 in
set_option maxRecDepth 100000 in
theorem build_wb (B b : Nat) (bs : List Value) (c : Int) (w : World) (h : Lib.IsBuilder 68 5 B b bs w) (hlen : bs.length + 1 ≤ 140737488355328) (hBw : B ≤ w.heap.size) :
    Calls Tryd.prog 37 #[.pointer (some ⟨b, 0, none⟩), .int .u8 c] w fun e w' => e = .returned .nilIface ∧ (Lib.BuilderAt 68 5 B b (.pointer (some ⟨b, 0, none⟩)) (bs ++ [.int .u8 c]) w' ∧ Below B w w') := by
  obtain ⟨i0, hi, hz0, hz1, hz2⟩ := info_parts (show (Tryd.prog.info? 5).map (fun i => (i.zero, i.size, i.bytes)) = some (some (.int .u8 0), 1, 1) by kernel_rfl)
  go_enter Tryd.func37, Tryd.ntmps37
  go_wp2_with (go_at_call 74; refine (cc_any B b bs _ h).mono ?_)
  rintro e w1 ⟨rfl, h1, hb1⟩
  obtain ⟨hB, v, hbk, hown, hne⟩ := h1
  have c0 : w1.cell? ⟨b, 0, none⟩ = some (.pointer (some ⟨b, 0, none⟩)) := by rw [Lib.cell_of_heap hbk]; rfl
  have c1 : w1.cell? ⟨b, 1, none⟩ = some v := by rw [Lib.cell_of_heap hbk]; rfl
  go_wp2_with (at_builtin; refine wpList_append_own _ rfl _ _ 66 rfl B 5 i0 (.int .u8 0) 1 1 Tryd.underlying66 hi hz0 hz1 hz2 rfl (by decide) _ _ _ rfl (hown.alloc _) ⟨w1.heap.size, 0, none⟩ 1 1 [.int .u8 c] rfl rfl ?c1 ?c2 ?c3 ?c4 ?c5 ?_)
  case c1 =>
    intro j u hj
    match j, hj with
    | 0, hj => simp at hj; subst hj; simp [Addr.add]
  case c2 => intro u hu; simp at hu; subst hu; rfl
  case c3 => unfold maxLen; omega
  case c4 => omega
  case c5 => have := hb1.size; simp; omega
  intro v' w2 hown' hgrow _
  have hlt : b < w1.heap.size := by
    rcases Nat.lt_or_ge b w1.heap.size with h' | h'
    · exact h'
    · simp [Array.getElem?_eq_none h'] at hbk
  have hb2 : w2.heap[b]? = some (.cells #[.pointer (some ⟨b, 0, none⟩), v] 68 (0, 0)) := by
    rw [hgrow.block b (by simp; omega) (fun e => hne e.symm), Lib.alloc_old w1 _ b hlt]
    exact hbk
  have d0 : w2.cell? ⟨b, 0, none⟩ = some (.pointer (some ⟨b, 0, none⟩)) := by rw [Lib.cell_of_heap hb2]; rfl
  have d1 : w2.cell? ⟨b, 1, none⟩ = some v := by rw [Lib.cell_of_heap hb2]; rfl
  have f1 : w2.frozen? ⟨b, 1, none⟩ = false := Lib.frozen_of_heap hb2 1
  obtain ⟨ao, n', cap, rfl⟩ : ∃ ao n' cap, v' = .slice ao n' cap := by
    rcases hown'.2 with ⟨hv, _⟩ | ⟨g, cap, cur, hv, _⟩
    · exact ⟨_, _, _, hv⟩
    · exact ⟨_, _, _, hv⟩
  go_wp2
  go_ret
  refine ⟨rfl, ?_, ?_⟩
  · exact Lib.BuilderAt.put (T := 68) (e := 5) hB hb2 (bs' := bs ++ [.int .u8 c]) (by simpa using hown') (by decide)
  · exact ((hb1.alloc (by have := hb1.size; omega) _).grown hgrow (by have := hb1.size; simp; omega) (fun k hk => (hown.lt k hk).1)).setCell (p := ⟨b, 1, none⟩) hB _
end Go.Proofs.YthpkjmbdjnelfaaDoor

namespace Go.Proofs.YthpkjmbdjnelfaaDoor
open Go.RowKit
set_option linter.unusedSimpArgs false
set_option linter.unusedVariables false
abbrev TkV := Int × ByteArray × Int
def tkOf (x : TkV) : Tk := ⟨x.1, x.2.1.data.toList, x.2.2⟩
/-- the tokens' cells -/
def TkAt (w : World) (bb off : Nat) (l : List TkV) : Prop := ∀ (i : Nat) (x : TkV), l[i]? = some x → w.cell? ⟨bb, off + i * 3, none⟩ = some (.int .i64 x.1) ∧ w.cell? ⟨bb, off + (i * 3 + 1), none⟩ = some (.string x.2.1) ∧ w.cell? ⟨bb, off + (i * 3 + 2), none⟩ = some (.int .i64 x.2.2)
theorem isB_below {T e : TypeId} {B b : Nat} {xs : List Value} {w w' : World} (h : Lib.IsBuilder T e B b xs w) (hb : Below w.heap.size w w') : Lib.IsBuilder T e B b xs w' := by
  have key : ∀ p, Lib.BuilderAt T e B b p xs w → Lib.BuilderAt T e B b p xs w' := fun p h => by
    have hlt := h.lt
    obtain ⟨hB, v, hbk, hown, hne⟩ := h
    refine ⟨hB, v, (hb.block b hlt).trans hbk, ?_, hne⟩
    obtain ⟨h1, h2⟩ := hown
    refine ⟨h1, ?_⟩
    rcases h2 with h2 | ⟨g, cap, cur, e1, e2, e3, e4⟩
    · exact .inl h2
    · have hg : g < w.heap.size := by
        rcases Nat.lt_or_ge g w.heap.size with h' | h'
        · exact h'
        · rw [Array.getElem?_eq_none h'] at e3; cases e3
      exact .inr ⟨g, cap, cur, e1, e2, (hb.block g hg).trans e3, e4⟩
  rcases h with h | h
  · exact .inl (key _ h)
  · exact .inr (key _ h)
theorem isB_new {T e : TypeId} {B b : Nat} {xs : List Value} {w : World} (h : Lib.IsBuilder T e B b xs w) (o : Obj) : Lib.IsBuilder T e B b xs (w.alloc o) := isB_below h ((Below.refl _ _).alloc (Nat.le_refl _) o)
theorem tab_below {P : Program} {name : String} {k : IntKind} {zs : List Int} {w w' : World} (h : Lib.TabIs P w name k zs) (hb : Below w.heap.size w w') : Lib.TabIs P w' name k zs := by
  unfold Lib.TabIs World.var? at h ⊢
  cases hg : P.globalNamed name with
  | none => rw [hg] at h; cases h
  | some g =>
    rw [hg] at h
    simp only [Option.bind_some] at h ⊢
    have hlt : g < w.heap.size := by
      rcases Nat.lt_or_ge g w.heap.size with h' | h'
      · exact h'
      · rw [Array.getElem?_eq_none h'] at h; cases h
    rw [hb.block g hlt]
    exact h
theorem bcStr (s : ByteArray) : Lib.strCells s = Lib.byteCells s.data.toList := by simp [Lib.strCells, Lib.byteCells]
structure JH (w : World) (s : List UInt8) (wr : World) : Prop where
  bel : Below w.heap.size w wr
  bld : Lib.IsBuilder 68 5 w.heap.size w.heap.size (Lib.byteCells s) wr
theorem JH.start (w : World) : JH w [] (w.alloc (.cells #[.pointer none, .slice none 0 0] 68)) := ⟨(Below.refl _ _).alloc (Nat.le_refl _) _, Lib.fresh_isBuilder _ _ w⟩
set_option maxHeartbeats 8000000 in
set_option maxRecDepth 100000 in
theorem join_any (l : List TkV) (A : Option Addr) (c bb off : Nat) (w : World) (hA : 0 < l.length → A = some ⟨bb, off, none⟩) (hF : TkAt w bb off l) (hn : l.length ≤ 1000000000) (hz : ∀ x ∈ l, x.2.1.size ≤ 1048576)
    (h0 : Lib0 w) (hT : Lib.TabIs Tryd.prog w "internal/strconv.uint64pow10" .u64 Lib.pow10Tab) :
    Calls Tryd.prog 15 #[.slice A l.length c] w fun e w' => e = .returned (.tuple #[.string ⟨(joinV (l.map tkOf)).1.toArray⟩, .int .i64 (joinV (l.map tkOf)).2]) ∧ Below w.heap.size w w' := by
  by_cases h4 : 400 < l.length
  · have hV : joinV (l.map tkOf) = ([], 5) := jv_5 (by simpa using h4)
    go_enter Tryd.func15, Tryd.ntmps15
    go_wp2_with fail
    go_ret2
    rw [hV]
    exact ⟨rfl, Below.refl _ _⟩
  have hV : joinV (l.map tkOf) = joinF (l.map tkOf) [] := jv_0 (by simpa using h4)
  have HV := Lib.hid hV
  clear hV
  go_enter Tryd.func15, Tryd.ntmps15
  go_wp2_with fail
  have H0 := Lib.hid (JH.start w)
  go_loopw [13] (fun i wr => ∃ (k : Nat) (s : List UInt8), k ≤ l.length ∧ i = .int .i64 k ∧ JH w s wr ∧ s.length ≤ 2000 ∧ Go.RowKit.Hid (joinF (l.map tkOf) [] = joinF ((l.map tkOf).drop k) s))
    (fun i _ => l.length - (intOf i).toNat)
  case atStart => exact ⟨0, [], Nat.zero_le _, rfl, H0.out, by simp, Lib.hid rfl⟩
  case round =>
    obtain ⟨k, s, hk, rfl, hR, hs, HJ⟩ := hrel
    by_cases hlt : k < l.length
    · have hAe := hA (by omega)
      subst hAe
      have hl : l[k]? = some l[k] := List.getElem?_eq_getElem hlt
      obtain ⟨f0, f1, f2⟩ := hF k _ hl
      have hbb := World.block_lt_of_cell? (w := w) (a := ⟨bb, off + k * 3, none⟩) f0
      have g0 := (hR.bel.cell (p := ⟨bb, off + k * 3, none⟩) hbb).trans f0
      have g1 := (hR.bel.cell (p := ⟨bb, off + (k * 3 + 1), none⟩) hbb).trans f1
      have g2 := (hR.bel.cell (p := ⟨bb, off + (k * 3 + 2), none⟩) hbb).trans f2
      rw [← Nat.add_assoc] at g1 g2
      have hzk := hz _ (List.getElem_mem hlt)
      have hlm : k < (l.map tkOf).length := by simpa using hlt
      obtain ⟨⟨kd, tx, nm⟩, hx⟩ : ∃ x, l[k] = x := ⟨_, rfl⟩
      have hm : (l.map tkOf)[k]'hlm = ⟨kd, tx.data.toList, nm⟩ := by simp [hx, tkOf]
      have hte : tkE ⟨kd, tx.data.toList, nm⟩ = faultOf kd tx nm := by simp [tkE]
      rw [hx] at g0 g1 g2 hzk
      dsimp only at g0 g1 g2 hzk
      clear f0 f1 f2 hl
      have htz : tx.size ≤ maxLen := Nat.le_trans hzk (by decide)
      have HX := Lib.hid hx
      have HM := Lib.hid hm
      have HE := Lib.hid hte
      clear hx hm hte
      have hwr : w.heap.size ≤ wr.heap.size := hR.bel.size
      by_cases he : faultOf kd tx nm = 0
      · have hC : ∀ wx : World, Calls Tryd.prog 33 #[.agg #[.int .i64 kd, .string tx, .int .i64 nm]] wx fun e w' => e = .returned (.int .i64 0) ∧ Below wx.heap.size wx w' := fun wx => by
          have := tokenCheck_any kd tx nm wx htz
          unfold FaultIs at this
          rwa [he] at this
        have htk : tkE ((l.map tkOf)[k]'hlm) = 0 := by rw [HM.out, HE.out, he]
        have HK := Lib.hid htk
        clear htk
        have hts : tx.data.toList.length = tx.size := by rw [ByteArray.size]; simp
        by_cases h3 : kd = 3
        · subst h3
          have hn3 : 0 ≤ nm ∧ nm ≤ 2147483647 := tk_num (t := ⟨3, tx.data.toList, nm⟩) (by rw [HE.out]; exact he) rfl
          clear he
          have hX : (⟨(Lib.itoa nm).toArray⟩ : ByteArray).data.toList = txtT ⟨3, tx.data.toList, nm⟩ := by show Lib.itoa nm = _; rw [txt_3 rfl, Lib.itoa, if_neg (by omega)]
          have hXz : (⟨(Lib.itoa nm).toArray⟩ : ByteArray).size ≤ 2097154 := by rw [szA, Lib.itoa, if_neg (by omega)]; have := decD_len nm.toNat (by omega); omega
          obtain ⟨N, hN⟩ : ∃ N, (s ++ ((⟨(Lib.itoa nm).toArray⟩ : ByteArray).data.toList ++ [32])).length = N := ⟨_, rfl⟩
          have hCel : Lib.byteCells s ++ Lib.strCells ⟨(Lib.itoa nm).toArray⟩ ++ [Value.int .u8 32] = Lib.byteCells (s ++ ((⟨(Lib.itoa nm).toArray⟩ : ByteArray).data.toList ++ [32])) := by rw [bcStr]; simp [Lib.byteCells]
          have hLen : (Lib.byteCells s ++ Lib.strCells ⟨(Lib.itoa nm).toArray⟩ ++ [Value.int .u8 32]).length = N := by rw [hCel, Lib.byteCells_length]; exact hN
          have hNN : N ≤ 2099155 := by
            rw [← hN]
            have : (⟨(Lib.itoa nm).toArray⟩ : ByteArray).data.toList.length = (⟨(Lib.itoa nm).toArray⟩ : ByteArray).size := rfl
            rw [List.length_append, List.length_append, this]
            show s.length + ((⟨(Lib.itoa nm).toArray⟩ : ByteArray).size + 1) ≤ 2099155
            omega
          have HX2 := Lib.hid hX
          clear hX
          by_cases hs2 : 2000 < N
          · go_wp2_with (first
              | (go_at_call 33; refine (hC _).mono ?_; rintro e w1 ⟨rfl, hb1⟩
                 have B1 : Below w.heap.size w w1 := (hR.bel.alloc hwr _).trans (hb1.mono (by simp; omega))
                 have L1 := isB_below (isB_new hR.bld _) hb1
                 have d0 : w1.cell? ⟨wr.heap.size, 0, none⟩ = some (.int .i64 3) := (hb1.cell (p := ⟨wr.heap.size, 0, none⟩) (by simp)).trans (by rw [World.cell?_alloc_new]; rfl)
                 have d1 : w1.cell? ⟨wr.heap.size, 1, none⟩ = some (.string tx) := (hb1.cell (p := ⟨wr.heap.size, 1, none⟩) (by simp)).trans (by rw [World.cell?_alloc_new]; rfl)
                 have d2 : w1.cell? ⟨wr.heap.size, 2, none⟩ = some (.int .i64 nm) := (hb1.cell (p := ⟨wr.heap.size, 2, none⟩) (by simp)).trans (by rw [World.cell?_alloc_new]; rfl))
              | (go_at_call 35; refine (Tryd.strconv_Itoa nm (by omega) (by omega) _ (tab_below hT B1)).mono ?_; rintro e w2 ⟨rfl, kk, os, rfl⟩
                 have B2 := B1.trans (Lib.below_grow w.heap.size w1 B1.size kk os)
                 have L2 := isB_below L1 (Lib.below_grow w1.heap.size w1 (Nat.le_refl _) kk os))
              | (go_at_call 34; refine (build_ws w.heap.size w.heap.size (Lib.byteCells s) ⟨(Lib.itoa nm).toArray⟩ _ L2 (by rw [Lib.byteCells_length]; omega) B2.size).mono ?_; rintro e w3 ⟨rfl, hb3, hbel3⟩)
              | (go_at_call 37; refine (build_wb w.heap.size w.heap.size (Lib.byteCells s ++ Lib.strCells ⟨(Lib.itoa nm).toArray⟩) 32 _ (.inr hb3) (by rw [List.length_append, Lib.byteCells_length, Lib.strCells_length]; omega) (Nat.le_trans B2.size hbel3.size)).mono ?_; rintro e w4 ⟨rfl, hb4, hbel4⟩)
              | (go_at_call 38; refine (Tryd.Builder_Len w.heap.size w.heap.size _ _ (.inr hb4)).mono ?_; rw [hLen]; rintro e w5 ⟨rfl, rfl⟩))
            go_ret2
            refine ⟨?_, (B2.trans hbel3).trans hbel4⟩
            rw [HV.out, HJ.out, jf_1 hlm HK.out (by rw [HM.out, ← HX2.out, hN]; exact hs2)]
            rfl
          · go_wp2_with (first
              | (go_at_call 33; refine (hC _).mono ?_; rintro e w1 ⟨rfl, hb1⟩
                 have B1 : Below w.heap.size w w1 := (hR.bel.alloc hwr _).trans (hb1.mono (by simp; omega))
                 have L1 := isB_below (isB_new hR.bld _) hb1
                 have d0 : w1.cell? ⟨wr.heap.size, 0, none⟩ = some (.int .i64 3) := (hb1.cell (p := ⟨wr.heap.size, 0, none⟩) (by simp)).trans (by rw [World.cell?_alloc_new]; rfl)
                 have d1 : w1.cell? ⟨wr.heap.size, 1, none⟩ = some (.string tx) := (hb1.cell (p := ⟨wr.heap.size, 1, none⟩) (by simp)).trans (by rw [World.cell?_alloc_new]; rfl)
                 have d2 : w1.cell? ⟨wr.heap.size, 2, none⟩ = some (.int .i64 nm) := (hb1.cell (p := ⟨wr.heap.size, 2, none⟩) (by simp)).trans (by rw [World.cell?_alloc_new]; rfl))
              | (go_at_call 35; refine (Tryd.strconv_Itoa nm (by omega) (by omega) _ (tab_below hT B1)).mono ?_; rintro e w2 ⟨rfl, kk, os, rfl⟩
                 have B2 := B1.trans (Lib.below_grow w.heap.size w1 B1.size kk os)
                 have L2 := isB_below L1 (Lib.below_grow w1.heap.size w1 (Nat.le_refl _) kk os))
              | (go_at_call 34; refine (build_ws w.heap.size w.heap.size (Lib.byteCells s) ⟨(Lib.itoa nm).toArray⟩ _ L2 (by rw [Lib.byteCells_length]; omega) B2.size).mono ?_; rintro e w3 ⟨rfl, hb3, hbel3⟩)
              | (go_at_call 37; refine (build_wb w.heap.size w.heap.size (Lib.byteCells s ++ Lib.strCells ⟨(Lib.itoa nm).toArray⟩) 32 _ (.inr hb3) (by rw [List.length_append, Lib.byteCells_length, Lib.strCells_length]; omega) (Nat.le_trans B2.size hbel3.size)).mono ?_; rintro e w4 ⟨rfl, hb4, hbel4⟩)
              | (go_at_call 38; refine (Tryd.Builder_Len w.heap.size w.heap.size _ _ (.inr hb4)).mono ?_; rw [hLen]; rintro e w5 ⟨rfl, rfl⟩))
            refine ⟨⟨k + 1, s ++ ((⟨(Lib.itoa nm).toArray⟩ : ByteArray).data.toList ++ [32]), by omega, by go_num, ⟨(B2.trans hbel3).trans hbel4, .inr ?_⟩, by rw [hN]; omega, Lib.hid ?_⟩, by simp [intOf]; omega⟩
            · rw [hCel] at hb4; exact hb4
            · rw [HJ.out, jf_t hlm HK.out (by rw [HM.out, ← HX2.out, hN]; exact hs2), HM.out, ← HX2.out]
        by_cases h2 : kd = 2
        · subst h2
          clear he
          have hX : (((⟨#[58]⟩ : ByteArray) ++ tx) : ByteArray).data.toList = txtT ⟨2, tx.data.toList, nm⟩ := by rw [txt_2 rfl]; simp [ByteArray.data_append]
          have hXz : (((⟨#[58]⟩ : ByteArray) ++ tx) : ByteArray).size ≤ 2097154 := by rw [ByteArray.size_append]; have : (⟨#[58]⟩ : ByteArray).size = 1 := rfl; omega
          obtain ⟨N, hN⟩ : ∃ N, (s ++ ((((⟨#[58]⟩ : ByteArray) ++ tx) : ByteArray).data.toList ++ [32])).length = N := ⟨_, rfl⟩
          have hCel : Lib.byteCells s ++ Lib.strCells ((⟨#[58]⟩ : ByteArray) ++ tx) ++ [Value.int .u8 32] = Lib.byteCells (s ++ ((((⟨#[58]⟩ : ByteArray) ++ tx) : ByteArray).data.toList ++ [32])) := by rw [bcStr]; simp [Lib.byteCells]
          have hLen : (Lib.byteCells s ++ Lib.strCells ((⟨#[58]⟩ : ByteArray) ++ tx) ++ [Value.int .u8 32]).length = N := by rw [hCel, Lib.byteCells_length]; exact hN
          have hNN : N ≤ 2099155 := by
            rw [← hN]
            have : (((⟨#[58]⟩ : ByteArray) ++ tx) : ByteArray).data.toList.length = (((⟨#[58]⟩ : ByteArray) ++ tx) : ByteArray).size := rfl
            rw [List.length_append, List.length_append, this]
            show s.length + ((((⟨#[58]⟩ : ByteArray) ++ tx) : ByteArray).size + 1) ≤ 2099155
            omega
          have HX2 := Lib.hid hX
          clear hX
          by_cases hs2 : 2000 < N
          · go_wp2_with (first
              | (go_at_call 33; refine (hC _).mono ?_; rintro e w1 ⟨rfl, hb1⟩
                 have B1 : Below w.heap.size w w1 := (hR.bel.alloc hwr _).trans (hb1.mono (by simp; omega))
                 have L1 := isB_below (isB_new hR.bld _) hb1
                 have d0 : w1.cell? ⟨wr.heap.size, 0, none⟩ = some (.int .i64 2) := (hb1.cell (p := ⟨wr.heap.size, 0, none⟩) (by simp)).trans (by rw [World.cell?_alloc_new]; rfl)
                 have d1 : w1.cell? ⟨wr.heap.size, 1, none⟩ = some (.string tx) := (hb1.cell (p := ⟨wr.heap.size, 1, none⟩) (by simp)).trans (by rw [World.cell?_alloc_new]; rfl)
                 have d2 : w1.cell? ⟨wr.heap.size, 2, none⟩ = some (.int .i64 nm) := (hb1.cell (p := ⟨wr.heap.size, 2, none⟩) (by simp)).trans (by rw [World.cell?_alloc_new]; rfl))
              | (go_at_call 34; refine (build_ws w.heap.size w.heap.size (Lib.byteCells s) ((⟨#[58]⟩ : ByteArray) ++ tx) _ L1 (by rw [Lib.byteCells_length]; omega) B1.size).mono ?_; rintro e w3 ⟨rfl, hb3, hbel3⟩)
              | (go_at_call 37; refine (build_wb w.heap.size w.heap.size (Lib.byteCells s ++ Lib.strCells ((⟨#[58]⟩ : ByteArray) ++ tx)) 32 _ (.inr hb3) (by rw [List.length_append, Lib.byteCells_length, Lib.strCells_length]; omega) (Nat.le_trans B1.size hbel3.size)).mono ?_; rintro e w4 ⟨rfl, hb4, hbel4⟩)
              | (go_at_call 38; refine (Tryd.Builder_Len w.heap.size w.heap.size _ _ (.inr hb4)).mono ?_; rw [hLen]; rintro e w5 ⟨rfl, rfl⟩))
            go_ret2
            refine ⟨?_, (B1.trans hbel3).trans hbel4⟩
            rw [HV.out, HJ.out, jf_1 hlm HK.out (by rw [HM.out, ← HX2.out, hN]; exact hs2)]
            rfl
          · go_wp2_with (first
              | (go_at_call 33; refine (hC _).mono ?_; rintro e w1 ⟨rfl, hb1⟩
                 have B1 : Below w.heap.size w w1 := (hR.bel.alloc hwr _).trans (hb1.mono (by simp; omega))
                 have L1 := isB_below (isB_new hR.bld _) hb1
                 have d0 : w1.cell? ⟨wr.heap.size, 0, none⟩ = some (.int .i64 2) := (hb1.cell (p := ⟨wr.heap.size, 0, none⟩) (by simp)).trans (by rw [World.cell?_alloc_new]; rfl)
                 have d1 : w1.cell? ⟨wr.heap.size, 1, none⟩ = some (.string tx) := (hb1.cell (p := ⟨wr.heap.size, 1, none⟩) (by simp)).trans (by rw [World.cell?_alloc_new]; rfl)
                 have d2 : w1.cell? ⟨wr.heap.size, 2, none⟩ = some (.int .i64 nm) := (hb1.cell (p := ⟨wr.heap.size, 2, none⟩) (by simp)).trans (by rw [World.cell?_alloc_new]; rfl))
              | (go_at_call 34; refine (build_ws w.heap.size w.heap.size (Lib.byteCells s) ((⟨#[58]⟩ : ByteArray) ++ tx) _ L1 (by rw [Lib.byteCells_length]; omega) B1.size).mono ?_; rintro e w3 ⟨rfl, hb3, hbel3⟩)
              | (go_at_call 37; refine (build_wb w.heap.size w.heap.size (Lib.byteCells s ++ Lib.strCells ((⟨#[58]⟩ : ByteArray) ++ tx)) 32 _ (.inr hb3) (by rw [List.length_append, Lib.byteCells_length, Lib.strCells_length]; omega) (Nat.le_trans B1.size hbel3.size)).mono ?_; rintro e w4 ⟨rfl, hb4, hbel4⟩)
              | (go_at_call 38; refine (Tryd.Builder_Len w.heap.size w.heap.size _ _ (.inr hb4)).mono ?_; rw [hLen]; rintro e w5 ⟨rfl, rfl⟩))
            refine ⟨⟨k + 1, s ++ ((((⟨#[58]⟩ : ByteArray) ++ tx) : ByteArray).data.toList ++ [32]), by omega, by go_num, ⟨(B1.trans hbel3).trans hbel4, .inr ?_⟩, by rw [hN]; omega, Lib.hid ?_⟩, by simp [intOf]; omega⟩
            · rw [hCel] at hb4; exact hb4
            · rw [HJ.out, jf_t hlm HK.out (by rw [HM.out, ← HX2.out, hN]; exact hs2), HM.out, ← HX2.out]
        by_cases h4k : kd = 4
        · subst h4k
          clear he
          have hX : (⟨(34 :: (escT tx.data.toList ++ [34])).toArray⟩ : ByteArray).data.toList = txtT ⟨4, tx.data.toList, nm⟩ := by rw [txt_4 rfl]
          have hXz : (⟨(34 :: (escT tx.data.toList ++ [34])).toArray⟩ : ByteArray).size ≤ 2097154 := by rw [szA]; have := escT_len tx.data.toList; simp; omega
          obtain ⟨N, hN⟩ : ∃ N, (s ++ ((⟨(34 :: (escT tx.data.toList ++ [34])).toArray⟩ : ByteArray).data.toList ++ [32])).length = N := ⟨_, rfl⟩
          have hCel : Lib.byteCells s ++ Lib.strCells ⟨(34 :: (escT tx.data.toList ++ [34])).toArray⟩ ++ [Value.int .u8 32] = Lib.byteCells (s ++ ((⟨(34 :: (escT tx.data.toList ++ [34])).toArray⟩ : ByteArray).data.toList ++ [32])) := by rw [bcStr]; simp [Lib.byteCells]
          have hLen : (Lib.byteCells s ++ Lib.strCells ⟨(34 :: (escT tx.data.toList ++ [34])).toArray⟩ ++ [Value.int .u8 32]).length = N := by rw [hCel, Lib.byteCells_length]; exact hN
          have hNN : N ≤ 2099155 := by
            rw [← hN]
            have : (⟨(34 :: (escT tx.data.toList ++ [34])).toArray⟩ : ByteArray).data.toList.length = (⟨(34 :: (escT tx.data.toList ++ [34])).toArray⟩ : ByteArray).size := rfl
            rw [List.length_append, List.length_append, this]
            show s.length + ((⟨(34 :: (escT tx.data.toList ++ [34])).toArray⟩ : ByteArray).size + 1) ≤ 2099155
            omega
          have HX2 := Lib.hid hX
          clear hX
          by_cases hs2 : 2000 < N
          · go_wp2_with (first
              | (go_at_call 33; refine (hC _).mono ?_; rintro e w1 ⟨rfl, hb1⟩
                 have B1 : Below w.heap.size w w1 := (hR.bel.alloc hwr _).trans (hb1.mono (by simp; omega))
                 have L1 := isB_below (isB_new hR.bld _) hb1
                 have d0 : w1.cell? ⟨wr.heap.size, 0, none⟩ = some (.int .i64 4) := (hb1.cell (p := ⟨wr.heap.size, 0, none⟩) (by simp)).trans (by rw [World.cell?_alloc_new]; rfl)
                 have d1 : w1.cell? ⟨wr.heap.size, 1, none⟩ = some (.string tx) := (hb1.cell (p := ⟨wr.heap.size, 1, none⟩) (by simp)).trans (by rw [World.cell?_alloc_new]; rfl)
                 have d2 : w1.cell? ⟨wr.heap.size, 2, none⟩ = some (.int .i64 nm) := (hb1.cell (p := ⟨wr.heap.size, 2, none⟩) (by simp)).trans (by rw [World.cell?_alloc_new]; rfl))
              | (go_at_call 36; refine (quote_any tx _ hzk (h0.to B1 (Nat.le_refl _))).mono ?_; rintro e w2 ⟨rfl, hq2⟩
                 have B2 := B1.trans (hq2.mono B1.size)
                 have L2 := isB_below L1 hq2)
              | (go_at_call 34; refine (build_ws w.heap.size w.heap.size (Lib.byteCells s) ⟨(34 :: (escT tx.data.toList ++ [34])).toArray⟩ _ L2 (by rw [Lib.byteCells_length]; omega) B2.size).mono ?_; rintro e w3 ⟨rfl, hb3, hbel3⟩)
              | (go_at_call 37; refine (build_wb w.heap.size w.heap.size (Lib.byteCells s ++ Lib.strCells ⟨(34 :: (escT tx.data.toList ++ [34])).toArray⟩) 32 _ (.inr hb3) (by rw [List.length_append, Lib.byteCells_length, Lib.strCells_length]; omega) (Nat.le_trans B2.size hbel3.size)).mono ?_; rintro e w4 ⟨rfl, hb4, hbel4⟩)
              | (go_at_call 38; refine (Tryd.Builder_Len w.heap.size w.heap.size _ _ (.inr hb4)).mono ?_; rw [hLen]; rintro e w5 ⟨rfl, rfl⟩))
            go_ret2
            refine ⟨?_, (B2.trans hbel3).trans hbel4⟩
            rw [HV.out, HJ.out, jf_1 hlm HK.out (by rw [HM.out, ← HX2.out, hN]; exact hs2)]
            rfl
          · go_wp2_with (first
              | (go_at_call 33; refine (hC _).mono ?_; rintro e w1 ⟨rfl, hb1⟩
                 have B1 : Below w.heap.size w w1 := (hR.bel.alloc hwr _).trans (hb1.mono (by simp; omega))
                 have L1 := isB_below (isB_new hR.bld _) hb1
                 have d0 : w1.cell? ⟨wr.heap.size, 0, none⟩ = some (.int .i64 4) := (hb1.cell (p := ⟨wr.heap.size, 0, none⟩) (by simp)).trans (by rw [World.cell?_alloc_new]; rfl)
                 have d1 : w1.cell? ⟨wr.heap.size, 1, none⟩ = some (.string tx) := (hb1.cell (p := ⟨wr.heap.size, 1, none⟩) (by simp)).trans (by rw [World.cell?_alloc_new]; rfl)
                 have d2 : w1.cell? ⟨wr.heap.size, 2, none⟩ = some (.int .i64 nm) := (hb1.cell (p := ⟨wr.heap.size, 2, none⟩) (by simp)).trans (by rw [World.cell?_alloc_new]; rfl))
              | (go_at_call 36; refine (quote_any tx _ hzk (h0.to B1 (Nat.le_refl _))).mono ?_; rintro e w2 ⟨rfl, hq2⟩
                 have B2 := B1.trans (hq2.mono B1.size)
                 have L2 := isB_below L1 hq2)
              | (go_at_call 34; refine (build_ws w.heap.size w.heap.size (Lib.byteCells s) ⟨(34 :: (escT tx.data.toList ++ [34])).toArray⟩ _ L2 (by rw [Lib.byteCells_length]; omega) B2.size).mono ?_; rintro e w3 ⟨rfl, hb3, hbel3⟩)
              | (go_at_call 37; refine (build_wb w.heap.size w.heap.size (Lib.byteCells s ++ Lib.strCells ⟨(34 :: (escT tx.data.toList ++ [34])).toArray⟩) 32 _ (.inr hb3) (by rw [List.length_append, Lib.byteCells_length, Lib.strCells_length]; omega) (Nat.le_trans B2.size hbel3.size)).mono ?_; rintro e w4 ⟨rfl, hb4, hbel4⟩)
              | (go_at_call 38; refine (Tryd.Builder_Len w.heap.size w.heap.size _ _ (.inr hb4)).mono ?_; rw [hLen]; rintro e w5 ⟨rfl, rfl⟩))
            refine ⟨⟨k + 1, s ++ ((⟨(34 :: (escT tx.data.toList ++ [34])).toArray⟩ : ByteArray).data.toList ++ [32]), by omega, by go_num, ⟨(B2.trans hbel3).trans hbel4, .inr ?_⟩, by rw [hN]; omega, Lib.hid ?_⟩, by simp [intOf]; omega⟩
            · rw [hCel] at hb4; exact hb4
            · rw [HJ.out, jf_t hlm HK.out (by rw [HM.out, ← HX2.out, hN]; exact hs2), HM.out, ← HX2.out]
        · clear he
          have hX : (tx : ByteArray).data.toList = txtT ⟨kd, tx.data.toList, nm⟩ := by rw [txt_n h3 h2 h4k]
          have hXz : (tx : ByteArray).size ≤ 2097154 := by omega
          obtain ⟨N, hN⟩ : ∃ N, (s ++ ((tx : ByteArray).data.toList ++ [32])).length = N := ⟨_, rfl⟩
          have hCel : Lib.byteCells s ++ Lib.strCells tx ++ [Value.int .u8 32] = Lib.byteCells (s ++ ((tx : ByteArray).data.toList ++ [32])) := by rw [bcStr]; simp [Lib.byteCells]
          have hLen : (Lib.byteCells s ++ Lib.strCells tx ++ [Value.int .u8 32]).length = N := by rw [hCel, Lib.byteCells_length]; exact hN
          have hNN : N ≤ 2099155 := by
            rw [← hN]
            have : (tx : ByteArray).data.toList.length = (tx : ByteArray).size := rfl
            rw [List.length_append, List.length_append, this]
            show s.length + ((tx : ByteArray).size + 1) ≤ 2099155
            omega
          have HX2 := Lib.hid hX
          clear hX
          by_cases hs2 : 2000 < N
          · go_wp2_with (first
              | (go_at_call 33; refine (hC _).mono ?_; rintro e w1 ⟨rfl, hb1⟩
                 have B1 : Below w.heap.size w w1 := (hR.bel.alloc hwr _).trans (hb1.mono (by simp; omega))
                 have L1 := isB_below (isB_new hR.bld _) hb1
                 have d0 : w1.cell? ⟨wr.heap.size, 0, none⟩ = some (.int .i64 kd) := (hb1.cell (p := ⟨wr.heap.size, 0, none⟩) (by simp)).trans (by rw [World.cell?_alloc_new]; rfl)
                 have d1 : w1.cell? ⟨wr.heap.size, 1, none⟩ = some (.string tx) := (hb1.cell (p := ⟨wr.heap.size, 1, none⟩) (by simp)).trans (by rw [World.cell?_alloc_new]; rfl)
                 have d2 : w1.cell? ⟨wr.heap.size, 2, none⟩ = some (.int .i64 nm) := (hb1.cell (p := ⟨wr.heap.size, 2, none⟩) (by simp)).trans (by rw [World.cell?_alloc_new]; rfl))
              | (go_at_call 34; refine (build_ws w.heap.size w.heap.size (Lib.byteCells s) tx _ L1 (by rw [Lib.byteCells_length]; omega) B1.size).mono ?_; rintro e w3 ⟨rfl, hb3, hbel3⟩)
              | (go_at_call 37; refine (build_wb w.heap.size w.heap.size (Lib.byteCells s ++ Lib.strCells tx) 32 _ (.inr hb3) (by rw [List.length_append, Lib.byteCells_length, Lib.strCells_length]; omega) (Nat.le_trans B1.size hbel3.size)).mono ?_; rintro e w4 ⟨rfl, hb4, hbel4⟩)
              | (go_at_call 38; refine (Tryd.Builder_Len w.heap.size w.heap.size _ _ (.inr hb4)).mono ?_; rw [hLen]; rintro e w5 ⟨rfl, rfl⟩))
            go_ret2
            refine ⟨?_, (B1.trans hbel3).trans hbel4⟩
            rw [HV.out, HJ.out, jf_1 hlm HK.out (by rw [HM.out, ← HX2.out, hN]; exact hs2)]
            rfl
          · go_wp2_with (first
              | (go_at_call 33; refine (hC _).mono ?_; rintro e w1 ⟨rfl, hb1⟩
                 have B1 : Below w.heap.size w w1 := (hR.bel.alloc hwr _).trans (hb1.mono (by simp; omega))
                 have L1 := isB_below (isB_new hR.bld _) hb1
                 have d0 : w1.cell? ⟨wr.heap.size, 0, none⟩ = some (.int .i64 kd) := (hb1.cell (p := ⟨wr.heap.size, 0, none⟩) (by simp)).trans (by rw [World.cell?_alloc_new]; rfl)
                 have d1 : w1.cell? ⟨wr.heap.size, 1, none⟩ = some (.string tx) := (hb1.cell (p := ⟨wr.heap.size, 1, none⟩) (by simp)).trans (by rw [World.cell?_alloc_new]; rfl)
                 have d2 : w1.cell? ⟨wr.heap.size, 2, none⟩ = some (.int .i64 nm) := (hb1.cell (p := ⟨wr.heap.size, 2, none⟩) (by simp)).trans (by rw [World.cell?_alloc_new]; rfl))
              | (go_at_call 34; refine (build_ws w.heap.size w.heap.size (Lib.byteCells s) tx _ L1 (by rw [Lib.byteCells_length]; omega) B1.size).mono ?_; rintro e w3 ⟨rfl, hb3, hbel3⟩)
              | (go_at_call 37; refine (build_wb w.heap.size w.heap.size (Lib.byteCells s ++ Lib.strCells tx) 32 _ (.inr hb3) (by rw [List.length_append, Lib.byteCells_length, Lib.strCells_length]; omega) (Nat.le_trans B1.size hbel3.size)).mono ?_; rintro e w4 ⟨rfl, hb4, hbel4⟩)
              | (go_at_call 38; refine (Tryd.Builder_Len w.heap.size w.heap.size _ _ (.inr hb4)).mono ?_; rw [hLen]; rintro e w5 ⟨rfl, rfl⟩))
            refine ⟨⟨k + 1, s ++ ((tx : ByteArray).data.toList ++ [32]), by omega, by go_num, ⟨(B1.trans hbel3).trans hbel4, .inr ?_⟩, by rw [hN]; omega, Lib.hid ?_⟩, by simp [intOf]; omega⟩
            · rw [hCel] at hb4; exact hb4
            · rw [HJ.out, jf_t hlm HK.out (by rw [HM.out, ← HX2.out, hN]; exact hs2), HM.out, ← HX2.out]
      · go_wp2_with (go_at_call 33; refine (tokenCheck_any kd tx nm _ htz).mono ?_; rintro e w1 ⟨rfl, hb1⟩)
        go_ret2
        refine ⟨?_, (hR.bel.alloc hwr _).trans (hb1.mono (by simp; omega))⟩
        rw [HV.out, HJ.out, jf_e hlm (by rw [HM.out, HE.out]; exact he), HM.out, HE.out]
        rfl
    · have hkl : k = l.length := by omega
      subst hkl
      have hbl := hR.bld
      have hsz := hR.bel.size
      go_wp2_with (go_at_call 39; refine (Tryd.Builder_String_any w.heap.size w.heap.size s _ hbl hsz).mono ?_; rintro e w1 ⟨rfl, hb1⟩)
      go_ret2
      refine ⟨?_, hR.bel.trans hb1⟩
      rw [HV.out, HJ.out, jf_end (by simp)]
      rfl
end Go.Proofs.YthpkjmbdjnelfaaDoor

namespace Go.Proofs.YthpkjmbdjnelfaaDoor
open Go.RowKit
set_option linter.unusedSimpArgs false
set_option linter.unusedVariables false
theorem vd_to {W w : World} (hb : Below W.heap.size W w) {x : D} {v : Value} (h : VD (frzW W) x v) : VD (frzW w) x v :=
  h.mono fun b o _ e => (hb.cell (p := ⟨b, o, none⟩) (World.block_lt_of_cell? (w := W) (a := ⟨b, o, none⟩) e)).trans e
theorem PC.at {P : Program} {f : FuncId} {args : List AV} {r : AV} {w : World} {vs : Array Value} (c : PC P (fun _ => []) f args r) (ha : SlR (gh0 w (frzW w)) args vs) :
    Calls P f vs w fun e w' => ∃ v, e = .returned v ∧ Below w.heap.size w w' ∧ VR (gh0 w (frzW w')) r v :=
  (c.run (frzW w) w vs (fun _ _ _ h => h) (fun g j x h => by simp at h) ha).mono fun e w' ⟨v, F', he, hb, _, _, hc, hv⟩ => ⟨v, he, hb, VR.mono2 (G := gh0 w F') (G' := gh0 w (frzW w')) (fun b o u e => hc b o u e) (fun _ _ h => h) hv⟩
theorem sl1 {w : World} {F : Frz} {x : D} {v : Value} (h : VD F x v) : SlR (gh0 w F) [.d x] #[v] := ⟨rfl, fun i a ha => by
  match i, ha with
  | 0, ha => simp at ha; subst ha; exact ⟨_, rfl, .d h⟩
  | i + 1, ha => simp at ha⟩
theorem sl2 {w : World} {F : Frz} {x y : D} {v u : Value} (h : VD F x v) (h' : VD F y u) : SlR (gh0 w F) [.d x, .d y] #[v, u] := ⟨rfl, fun i a ha => by
  match i, ha with
  | 0, ha => simp at ha; subst ha; exact ⟨_, rfl, .d h⟩
  | 1, ha => simp at ha; subst ha; exact ⟨_, rfl, .d h'⟩
  | i + 2, ha => simp at ha⟩
section
variable {l : List Tk} {w : World} {v u : Value}
theorem tokens_at (hl : l.length ≤ 1000000000) (hv : VD (frzW w) (.slc 3 (tksD l)) v) : Calls Tryd.prog 14 #[v] w fun e w' => ∃ v', e = .returned v' ∧ Below w.heap.size w w' ∧ VD (frzW w') (.slc 3 (tksD l)) v' :=
  (PC.at (tokens_c _ l hl) (sl1 hv)).mono fun e w' ⟨v', he, hb, h⟩ => ⟨v', he, hb, by cases h with | d h => exact h⟩
theorem same_at (hl : l.length ≤ 1000000000) (hv : VD (frzW w) (.slc 3 (tksD l)) v) (hu : VD (frzW w) (.slc 3 (tksD l)) u) : Calls Tryd.prog 17 #[v, u] w fun e w' => e = .returned (.bool true) ∧ Below w.heap.size w w' :=
  (PC.at (sameTokens_c _ l hl) (sl2 hv hu)).mono fun e w' ⟨v', he, hb, h⟩ => ⟨by cases h with | d h => rw [he, h.bool_inv], hb⟩
theorem joined_at (hl : l.length ≤ 1000000000) (hz : ∀ t ∈ l, t.text.length ≤ 1048576) (hv : VD (frzW w) (.slc 3 (tksD l)) v) : Calls Tryd.prog 16 #[v] w fun e w' => e = .returned (.tuple #[.string ⟨(joinV l).1.toArray⟩, .int .i64 (joinV l).2]) ∧ Below w.heap.size w w' :=
  (PC.at (TokensJoined_c _ l hz hl) (sl1 hv)).mono fun e w' ⟨v', he, hb, h⟩ => ⟨by
    cases h with
    | tup _ vs hlen h =>
      match vs, hlen with
      | [a, b], _ =>
        have h1 := h 0 _ a rfl rfl
        have h2 := h 1 _ b rfl rfl
        cases h1 with
        | d h1 =>
          cases h2 with
          | d h2 =>
            obtain ⟨t, rfl, e2, _⟩ := h1.str_inv
            obtain rfl := h2.int_inv
            rw [he, ← e2], hb⟩
theorem join_at (hl : l.length ≤ 1000000000) (hz : ∀ t ∈ l, t.text.length ≤ 1048576) (h0 : Lib0 w) (hT : Lib.TabIs Tryd.prog w "internal/strconv.uint64pow10" .u64 Lib.pow10Tab) (hv : VD (frzW w) (.slc 3 (tksD l)) v) : Calls Tryd.prog 15 #[v] w fun e w' => e = .returned (.tuple #[.string ⟨(joinV l).1.toArray⟩, .int .i64 (joinV l).2]) ∧ Below w.heap.size w w' := by
  obtain ⟨A, c, rfl, _, _, _, _, hx⟩ := hv.slc_inv
  let l' : List TkV := l.map fun t => (t.kind, ⟨t.text.toArray⟩, t.num)
  have el : l'.map tkOf = l := by
    simp only [l', List.map_map]
    conv => rhs; rw [← List.map_id l]
    apply List.map_congr_left
    intro t _
    rfl
  have eln : (tksD l).length = l'.length := by simp [l', tksD]
  obtain ⟨bb, off, hA, hF2⟩ : ∃ bb off, (0 < l'.length → A = some ⟨bb, off, none⟩) ∧ TkAt w bb off l' := by
    rcases Nat.eq_zero_or_pos l'.length with h0 | h0
    · refine ⟨0, 0, fun h => by omega, fun i x hx => ?_⟩
      rw [List.eq_nil_of_length_eq_zero h0] at hx
      simp at hx
    · obtain ⟨bb, off, val, hA, hx⟩ := hx (by omega)
      refine ⟨bb, off, fun _ => hA, fun i x hi => ?_⟩
      rw [List.getElem?_map] at hi
      obtain ⟨t, ht, rfl⟩ := Option.map_eq_some_iff.1 hi
      have hrow : (tksD l)[i]? = some [.int .i64 t.kind, .str t.text, .int .i64 t.num] := by simp [tksD, ht, tkD]
      obtain ⟨a1, a2⟩ := hx i _ 0 (.int .i64 t.kind) hrow rfl
      obtain ⟨c1, c2⟩ := hx i _ 1 (.str t.text) hrow rfl
      obtain ⟨d1, d2⟩ := hx i _ 2 (.int .i64 t.num) hrow rfl
      rw [a2.int_inv] at a1
      rw [d2.int_inv] at d1
      obtain ⟨t1, e1, e2, _⟩ := c2.str_inv
      rw [e1] at c1
      have q1 : t1 = ⟨t.text.toArray⟩ := by rw [← e2]
      rw [q1] at c1
      exact ⟨a1, c1, d1⟩
  rw [eln]
  have h := join_any l' A c bb off w hA hF2 (by simpa [l'] using hl) (fun x hx => by
    simp only [l', List.mem_map] at hx
    obtain ⟨t, ht, rfl⟩ := hx
    show (⟨t.text.toArray⟩ : ByteArray).size ≤ 1048576
    rw [szA]
    exact hz t ht) h0 hT
  rw [el] at h
  exact h
end
set_option maxRecDepth 20000 in
theorem tokenJoins_walk (l : List Tk) (v : Value) (W : World) (hv : VD (frzW W) (.slc 3 (tksD l)) v) (hl : l.length ≤ 1000000000) (hz : ∀ t ∈ l, t.text.length ≤ 1048576) (h0 : Lib0 W) (hT : Lib.TabIs Tryd.prog W "internal/strconv.uint64pow10" .u64 Lib.pow10Tab) :
    Calls Tryd.prog 4 #[v] W fun e W' => e = .returned (.bool true) ∧ Below W.heap.size W W' := by
  go_enter Tryd.func4, Tryd.ntmps4
  go_wp2_with (first
    | (go_at_call 14; refine (tokens_at hl hv).mono ?_; rintro e w1 ⟨v1, rfl, hb1, hv1⟩)
    | (go_at_call 15; refine (join_at hl hz (h0.below hb1) (tab_below hT hb1) hv1).mono ?_; rintro e w2 ⟨rfl, hb2⟩; have B2 := hb1.trans (hb2.mono hb1.size))
    | (go_at_call 16; refine (joined_at hl hz (vd_to B2 hv)).mono ?_; rintro e w3 ⟨rfl, hb3⟩; have B3 := B2.trans (hb3.mono B2.size))
    | (go_at_call 17; refine (same_at hl (vd_to (hb2.trans (hb3.mono hb2.size)) hv1) (vd_to B3 hv)).mono ?_; rintro e w4 ⟨rfl, hb4⟩))
  go_ret
  exact ⟨rfl, B3.trans (hb4.mono B3.size)⟩
end Go.Proofs.YthpkjmbdjnelfaaDoor

namespace Go.Proofs.YthpkjmbdjnelfaaDoor
open Go.RowKit Go.ChangeShapes Go.WideShapes Go.ChangeAt
set_option linter.unusedSimpArgs false
set_option linter.unusedVariables false
open Go.ChangeShapes Go.WideShapes Go.ChangeAt
set_option maxRecDepth 100000
theorem ints_of_laid {P : Program} {W : World} {name : String} {k : IntKind} {zs : List Int} {l : List (String × DataW Unit)} {g : Nat} {t e : TypeId} {n : Nat}
    (hg : P.globalNamed name = some g) (hty : (P.globals[g]?).map (·.type) = some t) (ht : P.underlying t = some (.array n e)) (he : P.underlying e = some (.int k)) (hce : P.cellsOf e = 1) (hct : P.cellsOf t = n)
    (hm : (name, Lib.tabData k zs) ∈ l) (hp : (l.all fun x => x.2.handleName?.isNone) = true) (h : laidMetH P l W) : Lib.TabIs P W name k zs := by
  rw [laidMetH_plain' P l W hp] at h
  obtain ⟨ps, hl, _⟩ := h
  obtain ⟨g', t', cs, fuel, p, hg', ht', hvar, hd⟩ := laid_row hl hm
  obtain rfl := Option.some.inj (hg.symm.trans hg')
  obtain rfl := Option.some.inj (hty.symm.trans ht')
  unfold Lib.TabIs
  rw [hvar, ← Lib.cells_of_tab ht he hce hct hd]
section
variable {H : Type} {enc : TypeId × Value → H} {W : World}
def tkSz (t : Tk) : Nat := t.text.length + 1
theorem dec_tk (f : Nat) : Dec enc Tryd.prog W tkD tkSz 70 f := by
  cases f with
  | zero => exact .zero
  | succ f =>
    have hi : Dec enc Tryd.prog W (fun n : Int => [.int .i64 n]) (fun _ => 1) 3 f := Dec.int Tryd.underlying3
    have hs : Dec enc Tryd.prog W (fun s : List UInt8 => [.str s]) (fun s => s.length + 1) 9 f := Dec.str Tryd.underlying9
    exact (Dec.struct Tryd.underlying70 (by kernel_rfl) (.cons (k := 1) hi (by kernel_rfl) rfl (.cons (k := 1) hs (by kernel_rfl) rfl (.cons (k := 1) hi (by kernel_rfl) rfl .nil)))).map
        (fun (p : Int × (Tx × (Int × Unit))) => Tk.mk p.1 p.2.1 p.2.2.1) (fun p => rfl) (fun p => by dsimp only [tkSz]; omega)
theorem dec_tks (f : Nat) : Dec enc Tryd.prog W (fun l : List Tk => [.slc 3 (l.map tkD)]) (fun l => (l.map tkSz).sum + 1) 37 f := by
  cases f with
  | zero => exact .zero
  | succ f => exact Dec.slc (dec_tk f) Tryd.underlying37 (by kernel_rfl) (fun _ => rfl) (by decide)
theorem tkSz_len : ∀ l : List Tk, l.length ≤ (l.map tkSz).sum
  | [] => by simp
  | x :: l => by
    have := tkSz_len l
    rw [List.map_cons, List.sum_cons, List.length_cons, tkSz]; omega
theorem tkSz_mem : ∀ {l : List Tk} {t : Tk}, t ∈ l → tkSz t ≤ (l.map tkSz).sum
  | x :: l, t, h => by
    rw [List.map_cons, List.sum_cons]
    rcases List.mem_cons.1 h with rfl | h
    · omega
    · have := tkSz_mem h; omega
end
theorem tokenJoins_run {H : Type} {enc : TypeId × Value → H} (W : World) (base : Nat) (v0 : Value) (d0 : DataW H) (p0 : List MemPlace)
    (k0 : Value.okWide Tryd.prog W .any base 37 v0) (h0 : DataW.Trod enc Tryd.prog W 0 (fun _ => true) true 37 v0 d0 p0) (t0 : Tiny d0)
    (hL : laidMetH Tryd.prog Rows.tokenJoinsRow.laid W) (hsh : W.ShapedOpen Tryd.prog) :
    Calls Tryd.prog 4 #[v0] W fun e W' => e = .returned (.bool true) ∧ Below W.heap.size W W' := by
  obtain ⟨a, n, c, rfl⟩ := okWide_slice Tryd.underlying37 k0
  obtain ⟨l, hx, hr⟩ := Dec.open_ dec_tks h0 t0
  have hr : (l.map tkSz).sum + 1 ≤ 1048576 := hr
  obtain ⟨v, e, hv⟩ := hx.2 0 _ rfl
  have e : some (Value.slice a n c) = some v := e
  injection e with e
  subst e
  have hl := tkSz_len l
  have hT : Lib.TabIs Tryd.prog W "internal/strconv.uint64pow10" .u64 Lib.pow10Tab :=
    ints_of_laid (g := 5) (t := 247) (e := 214) (n := 20) (by kernel_rfl) (by kernel_rfl) (by kernel_rfl) (by kernel_rfl) (by kernel_rfl) (by kernel_rfl) (show _ ∈ Rows.tokenJoinsRow.laid from .tail _ (.tail _ (.head _))) (by kernel_rfl) hL
  exact tokenJoins_walk l _ W hv (by omega) (fun t ht => by have := tkSz_mem ht; rw [tkSz] at this; omega) (Lib0.open_ hsh) hT
end Go.Proofs.YthpkjmbdjnelfaaDoor

/- Atoms and dots, walked: P3.1. -/
import Derived.Test.YtddiolgeaefieaaDoorSplit
import Derived.Test.YtddiolgeaefieaaDoorRule
namespace Go.Proofs.YtddiolgeaefieaaDoor
open Go.RowKit
set_option linter.unusedSimpArgs false
set_option linter.unusedVariables false
set_option maxRecDepth 20000 in
theorem atom_any (c : UInt8) (w : World) : Calls Tryd.prog 85 #[.int .u8 c.toNat] w fun e w' => e = .returned (.bool (atomB c)) ∧ w = w' := by
  have hu : (c.toNat : Int) < 256 := by have := c.toNat_lt; omega
  have hcu : ((c.toNat : Int).toNat.toUInt8) = c := by simp
  have HI := Lib.hid (fun wx => by have h := Tryd.strings_IndexByte (mk marksL) (c.toNat : Int) wx; rw [hcu] at h; exact h)
  clear hcu
  have hc : (c.toNat : Int) < 48 ∨ (48 ≤ (c.toNat : Int) ∧ (c.toNat : Int) ≤ 57) ∨ (58 ≤ (c.toNat : Int) ∧ (c.toNat : Int) < 65) ∨ (65 ≤ (c.toNat : Int) ∧ (c.toNat : Int) ≤ 90) ∨ (91 ≤ (c.toNat : Int) ∧ (c.toNat : Int) ≤ 96) ∨ (97 ≤ (c.toNat : Int) ∧ (c.toNat : Int) ≤ 122) ∨ 122 < (c.toNat : Int) := by omega
  rcases hc with h | ⟨h, h'⟩ | ⟨h, h'⟩ | ⟨h, h'⟩ | ⟨h, h'⟩ | ⟨h, h'⟩ | h
  all_goals first | have HB := Lib.hid (alnum_yes (c := c) (by omega)) | have HB := Lib.hid (alnum_no (c := c) (by omega))
  all_goals
    go_enter Tryd.func85, Tryd.ntmps85
    go_wp2_with (go_at_call 108; refine (HI.out _).mono ?_; rintro e w' ⟨rfl, rfl⟩)
    go_ret
    refine ⟨?_, rfl⟩
    rw [HB.out]
    first
    | rfl
    | (have e1 : decide ((c.toNat : Int) ≤ 57) = false := by (rw [decide_eq_false_iff_not]; omega)
       first
       | (simp only [e1, Bool.false_or]; rfl)
       | (have e2 : decide ((c.toNat : Int) ≤ 90) = false := by (rw [decide_eq_false_iff_not]; omega)
          first
          | (simp only [e1, e2, Bool.false_or, Bool.or_false]; rfl)
          | (have e3 : decide ((c.toNat : Int) ≤ 122) = false := by (rw [decide_eq_false_iff_not]; omega)
             simp only [e1, e2, e3, Bool.false_or, Bool.or_false]; rfl)))
theorem getD_get {l : List UInt8} {k : Nat} (h : k < l.length) : l.getD k 0 = l[k] := by simp [List.getD, List.getElem?_eq_getElem h]
theorem marks_cell (w : World) (k : Nat) (hk : k < 19) : (w.alloc (.cells #[.int .u8 33, .int .u8 35, .int .u8 36, .int .u8 37, .int .u8 38, .int .u8 39, .int .u8 42, .int .u8 43, .int .u8 45, .int .u8 47, .int .u8 61, .int .u8 63, .int .u8 94, .int .u8 95, .int .u8 123, .int .u8 124, .int .u8 125, .int .u8 126, .int .u8 96] 5)).cell? ⟨w.heap.size, k, none⟩ = some (.int .u8 ((marksL.getD k 0).toNat : Int)) := by
  rw [cell_of_row _ _ _ _ 5 (0, 0) (heap_alloc_new w _)]
  have : ∀ k, k < 19 → (#[Value.int .u8 33, .int .u8 35, .int .u8 36, .int .u8 37, .int .u8 38, .int .u8 39, .int .u8 42, .int .u8 43, .int .u8 45, .int .u8 47, .int .u8 61, .int .u8 63, .int .u8 94, .int .u8 95, .int .u8 123, .int .u8 124, .int .u8 125, .int .u8 126, .int .u8 96] : Array Value)[k]? = some (.int .u8 ((marksL.getD k 0).toNat : Int)) := by
    intro k hk
    obtain rfl | rfl | rfl | rfl | rfl | rfl | rfl | rfl | rfl | rfl | rfl | rfl | rfl | rfl | rfl | rfl | rfl | rfl | rfl : k = 0 ∨ k = 1 ∨ k = 2 ∨ k = 3 ∨ k = 4 ∨ k = 5 ∨ k = 6 ∨ k = 7 ∨ k = 8 ∨ k = 9 ∨ k = 10 ∨ k = 11 ∨ k = 12 ∨ k = 13 ∨ k = 14 ∨ k = 15 ∨ k = 16 ∨ k = 17 ∨ k = 18 := by omega
    all_goals rfl
  exact this k hk
set_option maxRecDepth 20000 in
theorem atomByte_any (c : UInt8) (w : World) : Calls Tryd.prog 86 #[.int .u8 c.toNat] w fun e w' => e = .returned (.bool (atomB c)) ∧ Below w.heap.size w w' := by
  have hu : (c.toNat : Int) < 256 := by have := c.toNat_lt; omega
  by_cases ha : (97 ≤ (c.toNat : Int) ∧ (c.toNat : Int) ≤ 122) ∨ (65 ≤ (c.toNat : Int) ∧ (c.toNat : Int) ≤ 90) ∨ (48 ≤ (c.toNat : Int) ∧ (c.toNat : Int) ≤ 57)
  · have HB := Lib.hid (alnum_yes (c := c) ha)
    rcases ha with ⟨h, h'⟩ | ⟨h, h'⟩ | ⟨h, h'⟩
    all_goals
      go_enter Tryd.func86, Tryd.ntmps86
      go_wp2_with (go_at_call 48; first | (refine (In_yes _ _ _ _ ?_ ?_).mono ?_; omega; omega; rintro e w' ⟨rfl, rfl⟩) | (refine (In_no _ _ _ _ ?_).mono ?_; omega; rintro e w' ⟨rfl, rfl⟩))
      go_ret
      exact ⟨by rw [HB.out]; rfl, Below.refl _ _⟩
  · have HB := Lib.hid (alnum_no (c := c) ha)
    have HN1 : (c.toNat : Int) < 97 ∨ 122 < (c.toNat : Int) := by omega
    have HN2 : (c.toNat : Int) < 65 ∨ 90 < (c.toNat : Int) := by omega
    have HN3 : (c.toNat : Int) < 48 ∨ 57 < (c.toNat : Int) := by omega
    have H1 := Lib.hid HN1
    have H2 := Lib.hid HN2
    have H3 := Lib.hid HN3
    clear HN1 HN2 HN3 ha
    have HM := Lib.hid (marks_cell w)
    go_enter Tryd.func86, Tryd.ntmps86
    go_wp2_with (go_at_call 48; refine (In_no _ _ _ _ ?_).mono ?_; (first | exact H1.out | exact H2.out | exact H3.out); rintro e w' ⟨rfl, rfl⟩)
    go_loop [4] (fun i => ∃ k : Nat, k ≤ 19 ∧ i = .int .i64 k ∧ ∀ j, j < k → marksL.getD j 0 ≠ c) (fun i => 19 - (intOf i).toNat)
    case atStart => exact ⟨0, by omega, rfl, fun j hj => by omega⟩
    case round =>
      obtain ⟨k, hk, rfl, hn⟩ := hrel
      have HN := Lib.hid hn
      clear hn
      by_cases hlt : k < 19
      · have hc := HM.out k hlt
        obtain ⟨d, hd⟩ : ∃ d, d = marksL.getD k 0 := ⟨_, rfl⟩
        rw [← hd] at hc
        have HD := Lib.hid hd
        clear hd
        have i0 : (0 : Int) ≤ k := by omega
        have i1 : (k : Int) < 19 := by omega
        by_cases he : d = c
        · subst he
          have HF : Hid (decide (0 ≤ Lib.indexByte marksL d) = true) := Lib.hid (by
            rw [decide_eq_true_eq, indexByte_mem, HD.out]
            have hk' : k < marksL.length := hlt
            rw [getD_get hk']
            exact List.getElem_mem hk')
          go_wp2_with fail
          go_ret
          exact ⟨by rw [HB.out, HF.out]; rfl, (Below.refl _ _).alloc (Nat.le_refl _) _⟩
        · have HE := Lib.hid he
          have i2 : ((d.toNat : Int) == (c.toNat : Int)) = false := beq_false_of_ne fun h => he (UInt8.toNat_inj.1 (by omega))
          clear he
          go_wp2_with fail
          go_round
          case rel =>
            refine ⟨k + 1, by omega, by go_num, fun j hj => ?_⟩
            by_cases e : j = k
            · subst e
              rw [← HD.out]
              exact HE.out
            · exact HN.out j (by omega)
          case measure => simp [intOf]; omega
      · obtain rfl : k = 19 := by omega
        have HF : Hid (decide (0 ≤ Lib.indexByte marksL c) = false) := Lib.hid (by
          rw [decide_eq_false_iff_not, indexByte_mem]
          intro hm
          obtain ⟨j, hj, e⟩ := List.mem_iff_getElem.1 hm
          refine HN.out j hj ?_
          rw [getD_get hj, e])
        go_wp2_with fail
        go_ret
        exact ⟨by rw [HB.out, HF.out]; rfl, (Below.refl _ _).alloc (Nat.le_refl _) _⟩
end Go.Proofs.YtddiolgeaefieaaDoor

/- Texts that the laws rest on, packed. -/
import Derived.Test.YthpkjmbdjnelfaaDoorGD
import Derived.Test.YthpkjmbdjnelfaaDoorShelfS
namespace Go.Proofs.YthpkjmbdjnelfaaDoor
open Go.RowKit
set_option linter.unusedSimpArgs false
set_option linter.unusedVariables false
/-- the library's word on long texts is some number -/
def Lib0 (w : World) : Prop := 4 < w.heap.size ∧ ∃ m : Int, w.cell? ⟨4, 0, none⟩ = some (.int .i64 m)
theorem Lib0.below {w w' : World} (h : Lib0 w) (hb : Below w.heap.size w w') : Lib0 w' := by
  obtain ⟨h1, m, h2⟩ := h
  exact ⟨Nat.lt_of_lt_of_le h1 hb.size, m, (hb.cell (p := ⟨4, 0, none⟩) h1).trans h2⟩
theorem Lib0.to {w w' : World} {B : Nat} (h : Lib0 w) (hb : Below B w w') (hB : w.heap.size ≤ B) : Lib0 w' := h.below (hb.mono hB)
theorem Lib0.drewN {w : World} (h : Lib0 w) (d : Nat) : Lib0 (w.drewN d) := h
theorem Lib0.open_ {w : World} (h : w.ShapedOpen Tryd.prog) : Lib0 w := by
  obtain ⟨m, hm⟩ := Tryd.laysM144.s1_3 w h
  exact ⟨World.block_lt_of_cell? w ⟨4, 0, none⟩ hm, m, hm⟩
end Go.Proofs.YthpkjmbdjnelfaaDoor

namespace Go.Proofs.YthpkjmbdjnelfaaDoor
open Go.RowKit
set_option linter.unusedSimpArgs false
set_option linter.unusedVariables false
theorem RF.of_row {w : World} {g : Nat} {l : List ByteArray} {e : TypeId} {fr : Nat × Nat} (h : w.heap[g]? = some (.cells (l.map Value.string).toArray e fr)) (n : Nat) (hn : l.length = n) (hm : n ≤ maxLen) :
    RF strF w (· < w.heap.size) (.slice (some ⟨g, 0, none⟩) n n) l := by
  have e' : l.flatMap strF.enc = l.map Value.string := by
    clear h hn
    induction l with
    | nil => rfl
    | cons z r ih => simp only [List.map_cons, List.flatMap_cons, ih]; rfl
  refine ⟨some ⟨g, 0, none⟩, n, by simp [hn], by simp [hn], hm, by simp, ?_, fun _ => ⟨g, 0, rfl, (Array.getElem?_eq_some_iff.1 h).1, fun j u hu => ?_⟩⟩
  · rw [e']
    simp [strF]
  · rw [e'] at hu
    rw [Nat.zero_add, cell_of_row _ _ _ _ e fr h]
    simpa using hu
theorem Split_any (s : ByteArray) (w : World) (hs : s.size < 4294967281) (h0 : Lib0 w) :
    Calls Tryd.prog 158 #[.string s, .string dotSep] w fun e w' => ∃ v', e = .returned v' ∧ RF strF w' (· < w'.heap.size) v' (splitL s) ∧ Below w.heap.size w w' := by
  obtain ⟨_, m, hm⟩ := h0
  refine (Tryd.strings_Split s dotSep m w hs hm (by decide)).mono ?_
  rintro e w' ⟨rfl, rfl⟩
  refine ⟨_, rfl, RF.of_row (fr := (0, 0)) (heap_alloc_new w _) _ (splitL_len s) ?_, (Below.refl _ _).alloc (Nat.le_refl _) _⟩
  have := countB_small s
  unfold maxLen
  omega
end Go.Proofs.YthpkjmbdjnelfaaDoor

namespace Go.Proofs.YthpkjmbdjnelfaaDoor
open Go.RowKit
set_option linter.unusedSimpArgs false
set_option linter.unusedVariables false
set_option maxRecDepth 20000 in
theorem atom_any (c : UInt8) (w : World) : Calls Tryd.prog 159 #[.int .u8 c.toNat] w fun e w' => e = .returned (.bool (atomB c)) ∧ w = w' := by
  have hu : (c.toNat : Int) < 256 := by have := c.toNat_lt; omega
  have hcu : ((c.toNat : Int).toNat.toUInt8) = c := by simp
  have HI := Lib.hid (fun wx => by have h := Tryd.strings_IndexByte (mk marksL) (c.toNat : Int) wx; rw [hcu] at h; exact h)
  clear hcu
  have hc : (c.toNat : Int) < 48 ∨ (48 ≤ (c.toNat : Int) ∧ (c.toNat : Int) ≤ 57) ∨ (58 ≤ (c.toNat : Int) ∧ (c.toNat : Int) < 65) ∨ (65 ≤ (c.toNat : Int) ∧ (c.toNat : Int) ≤ 90) ∨ (91 ≤ (c.toNat : Int) ∧ (c.toNat : Int) ≤ 96) ∨ (97 ≤ (c.toNat : Int) ∧ (c.toNat : Int) ≤ 122) ∨ 122 < (c.toNat : Int) := by omega
  rcases hc with h | ⟨h, h'⟩ | ⟨h, h'⟩ | ⟨h, h'⟩ | ⟨h, h'⟩ | ⟨h, h'⟩ | h
  all_goals first | have HB := Lib.hid (alnum_yes (c := c) (by omega)) | have HB := Lib.hid (alnum_no (c := c) (by omega))
  all_goals
    go_enter Tryd.func159, Tryd.ntmps159
    go_wp2_with (go_at_call 116; refine (HI.out _).mono ?_; rintro e w' ⟨rfl, rfl⟩)
    go_ret
    refine ⟨?_, rfl⟩
    rw [HB.out]
    first
    | rfl
    | (have e1 : decide ((c.toNat : Int) ≤ 57) = false := by (rw [decide_eq_false_iff_not]; omega)
       first
       | (simp only [e1, Bool.false_or]; rfl)
       | (have e2 : decide ((c.toNat : Int) ≤ 90) = false := by (rw [decide_eq_false_iff_not]; omega)
          first
          | (simp only [e1, e2, Bool.false_or, Bool.or_false]; rfl)
          | (have e3 : decide ((c.toNat : Int) ≤ 122) = false := by (rw [decide_eq_false_iff_not]; omega)
             simp only [e1, e2, e3, Bool.false_or, Bool.or_false]; rfl)))
theorem getD_get {l : List UInt8} {k : Nat} (h : k < l.length) : l.getD k 0 = l[k] := by simp [List.getD, List.getElem?_eq_getElem h]
theorem marks_cell (w : World) (k : Nat) (hk : k < 19) : (w.alloc (.cells #[.int .u8 33, .int .u8 35, .int .u8 36, .int .u8 37, .int .u8 38, .int .u8 39, .int .u8 42, .int .u8 43, .int .u8 45, .int .u8 47, .int .u8 61, .int .u8 63, .int .u8 94, .int .u8 95, .int .u8 123, .int .u8 124, .int .u8 125, .int .u8 126, .int .u8 96] 5)).cell? ⟨w.heap.size, k, none⟩ = some (.int .u8 ((marksL.getD k 0).toNat : Int)) := by
  rw [cell_of_row _ _ _ _ 5 (0, 0) (heap_alloc_new w _)]
  have : ∀ k, k < 19 → (#[Value.int .u8 33, .int .u8 35, .int .u8 36, .int .u8 37, .int .u8 38, .int .u8 39, .int .u8 42, .int .u8 43, .int .u8 45, .int .u8 47, .int .u8 61, .int .u8 63, .int .u8 94, .int .u8 95, .int .u8 123, .int .u8 124, .int .u8 125, .int .u8 126, .int .u8 96] : Array Value)[k]? = some (.int .u8 ((marksL.getD k 0).toNat : Int)) := by
    intro k hk
    obtain rfl | rfl | rfl | rfl | rfl | rfl | rfl | rfl | rfl | rfl | rfl | rfl | rfl | rfl | rfl | rfl | rfl | rfl | rfl : k = 0 ∨ k = 1 ∨ k = 2 ∨ k = 3 ∨ k = 4 ∨ k = 5 ∨ k = 6 ∨ k = 7 ∨ k = 8 ∨ k = 9 ∨ k = 10 ∨ k = 11 ∨ k = 12 ∨ k = 13 ∨ k = 14 ∨ k = 15 ∨ k = 16 ∨ k = 17 ∨ k = 18 := by omega
    all_goals rfl
  exact this k hk
set_option maxRecDepth 20000 in
theorem atomByte_any (c : UInt8) (w : World) : Calls Tryd.prog 164 #[.int .u8 c.toNat] w fun e w' => e = .returned (.bool (atomB c)) ∧ Below w.heap.size w w' := by
  have hu : (c.toNat : Int) < 256 := by have := c.toNat_lt; omega
  by_cases ha : (97 ≤ (c.toNat : Int) ∧ (c.toNat : Int) ≤ 122) ∨ (65 ≤ (c.toNat : Int) ∧ (c.toNat : Int) ≤ 90) ∨ (48 ≤ (c.toNat : Int) ∧ (c.toNat : Int) ≤ 57)
  · have HB := Lib.hid (alnum_yes (c := c) ha)
    rcases ha with ⟨h, h'⟩ | ⟨h, h'⟩ | ⟨h, h'⟩
    all_goals
      go_enter Tryd.func164, Tryd.ntmps164
      go_wp2_with (go_at_call 63; first | (refine (In_yes _ _ _ _ ?_ ?_).mono ?_; omega; omega; rintro e w' ⟨rfl, rfl⟩) | (refine (In_no _ _ _ _ ?_).mono ?_; omega; rintro e w' ⟨rfl, rfl⟩))
      go_ret
      exact ⟨by rw [HB.out]; rfl, Below.refl _ _⟩
  · have HB := Lib.hid (alnum_no (c := c) ha)
    have HN1 : (c.toNat : Int) < 97 ∨ 122 < (c.toNat : Int) := by omega
    have HN2 : (c.toNat : Int) < 65 ∨ 90 < (c.toNat : Int) := by omega
    have HN3 : (c.toNat : Int) < 48 ∨ 57 < (c.toNat : Int) := by omega
    have H1 := Lib.hid HN1
    have H2 := Lib.hid HN2
    have H3 := Lib.hid HN3
    clear HN1 HN2 HN3 ha
    have HM := Lib.hid (marks_cell w)
    go_enter Tryd.func164, Tryd.ntmps164
    go_wp2_with (go_at_call 63; refine (In_no _ _ _ _ ?_).mono ?_; (first | exact H1.out | exact H2.out | exact H3.out); rintro e w' ⟨rfl, rfl⟩)
    go_loop [4] (fun i => ∃ k : Nat, k ≤ 19 ∧ i = .int .i64 k ∧ ∀ j, j < k → marksL.getD j 0 ≠ c) (fun i => 19 - (intOf i).toNat)
    case atStart => exact ⟨0, by omega, rfl, fun j hj => by omega⟩
    case round =>
      obtain ⟨k, hk, rfl, hn⟩ := hrel
      have HN := Lib.hid hn
      clear hn
      by_cases hlt : k < 19
      · have hc := HM.out k hlt
        obtain ⟨d, hd⟩ : ∃ d, d = marksL.getD k 0 := ⟨_, rfl⟩
        rw [← hd] at hc
        have HD := Lib.hid hd
        clear hd
        have i0 : (0 : Int) ≤ k := by omega
        have i1 : (k : Int) < 19 := by omega
        by_cases he : d = c
        · subst he
          have HF : Hid (decide (0 ≤ Lib.indexByte marksL d) = true) := Lib.hid (by
            rw [decide_eq_true_eq, indexByte_mem, HD.out]
            have hk' : k < marksL.length := hlt
            rw [getD_get hk']
            exact List.getElem_mem hk')
          go_wp2_with fail
          go_ret
          exact ⟨by rw [HB.out, HF.out]; rfl, (Below.refl _ _).alloc (Nat.le_refl _) _⟩
        · have HE := Lib.hid he
          have i2 : ((d.toNat : Int) == (c.toNat : Int)) = false := beq_false_of_ne fun h => he (UInt8.toNat_inj.1 (by omega))
          clear he
          go_wp2_with fail
          go_round
          case rel =>
            refine ⟨k + 1, by omega, by go_num, fun j hj => ?_⟩
            by_cases e : j = k
            · subst e
              rw [← HD.out]
              exact HE.out
            · exact HN.out j (by omega)
          case measure => simp [intOf]; omega
      · obtain rfl : k = 19 := by omega
        have HF : Hid (decide (0 ≤ Lib.indexByte marksL c) = false) := Lib.hid (by
          rw [decide_eq_false_iff_not, indexByte_mem]
          intro hm
          obtain ⟨j, hj, e⟩ := List.mem_iff_getElem.1 hm
          refine HN.out j hj ?_
          rw [getD_get hj, e])
        go_wp2_with fail
        go_ret
        exact ⟨by rw [HB.out, HF.out]; rfl, (Below.refl _ _).alloc (Nat.le_refl _) _⟩
end Go.Proofs.YthpkjmbdjnelfaaDoor

namespace Go.Proofs.YthpkjmbdjnelfaaDoor
open Go.RowKit
set_option linter.unusedSimpArgs false
set_option linter.unusedVariables false
theorem ne46 {l : UInt8} (h : l ≠ 46) : (l.toNat : Int) ≠ 46 := fun e => h (UInt8.toNat_inj.1 (by have : (46 : UInt8).toNat = 46 := rfl; omega))
set_option maxRecDepth 20000 in
theorem dotted_any (s : ByteArray) (w : World) (hs : s.size ≤ 1048576) (h0 : Lib0 w) : Calls Tryd.prog 121 #[.string s] w fun e w' => e = .returned (.bool (dottedB s)) ∧ Below w.heap.size w w' := by
  have HS := Lib.hid (splitL_all s)
  have HZ := Lib.hid (fun x (hx : x ∈ splitL s) => splitB_small dotSep _ s x hx)
  have HC := Lib.hid (fun wx h => Split_any s wx (by omega) h)
  obtain ⟨L, hL⟩ : ∃ L, L = splitL s := ⟨_, rfl⟩
  rw [← hL] at HS HC HZ
  have HL := Lib.hid hL
  have H0 := Lib.hid h0
  clear hL h0
  go_enter Tryd.func121, Tryd.ntmps121
  go_wp2_with fail
  refine (HC.out _ H0.out).mono ?_
  rintro e w1 ⟨v, rfl, hr, hb⟩
  obtain ⟨A, c, rfl, hr⟩ := hr.ex
  have hm := hr.bound
  unfold maxLen at hm
  have H := Lib.hid hr
  have HB := Lib.hid hb
  clear hr hb
  go_wp2_with fail
  go_loop [9] (fun i => ∃ k : Nat, k ≤ L.length ∧ i = .int .i64 k ∧ ∀ (j : Nat) x, j < k → L[j]? = some x → pieceOk (bs x) = true) (fun i => L.length - (intOf i).toNat)
  case atStart => exact ⟨0, by omega, rfl, fun j x hj => by omega⟩
  case round =>
    obtain ⟨k, hk, rfl, hg⟩ := hrel
    have HG := Lib.hid hg
    clear hg
    by_cases hlt : k < L.length
    · obtain ⟨b, off, x, rfl, _, hx, hc⟩ := str_cell H.out hlt
      have hxs := HZ.out x (List.mem_of_getElem? hx)
      have HX := Lib.hid hx
      have HBAD : Hid (pieceOk (bs x) = false → dottedB s = false) := Lib.hid (fun h => by
        rw [← HS.out, List.all_eq_false]
        exact ⟨x, List.mem_of_getElem? HX.out, by simp [h]⟩)
      clear hx
      by_cases hz : x.size = 0
      · have HV : Hid (dottedB s = false) := Lib.hid (HBAD.out (by
          have : bs x = [] := List.eq_nil_of_length_eq_zero (by rw [bs_len]; exact hz)
          rw [this]; rfl))
        have hx0 : x = ByteArray.empty := by
          apply bs_inj
          have : bs x = [] := List.eq_nil_of_length_eq_zero (by rw [bs_len]; exact hz)
          rw [this]; rfl
        subst hx0
        clear hz hxs
        go_wp2_with fail
        go_ret
        exact ⟨by rw [HV.out]; rfl, HB.out⟩
      · have i1 : x.toList.isEmpty = false := by
          rw [ByteArray.toList_eq]
          cases he : x.data.toList with
          | nil => exfalso; apply hz; rw [← bs_len]; unfold bs; rw [he]; rfl
          | cons a b => rfl
        have HNE : Hid ((bs x).isEmpty = false) := Lib.hid (by rw [ByteArray.toList_eq] at i1; exact i1)
        have i2 : ¬ x.toList = [] := by intro h; rw [h] at i1; cases i1
        clear hz
        go_wp2_with fail
        go_loop [17] (fun i => ∃ q : Nat, q ≤ x.size ∧ i = .int .i64 q ∧ ∀ (j : Nat) (hj : j < x.size), j < q → atomB x[j] = true) (fun i => x.size - (intOf i).toNat)
        case atStart => exact ⟨0, by omega, rfl, fun j x hj => by omega⟩
        case round =>
          obtain ⟨q, hq, rfl, hat⟩ := hrel
          have HA := Lib.hid hat
          clear hat
          by_cases hlq : q < x.size
          · have HAT := Lib.hid (fun wx => atom_any x[q] wx)
            cases ha : atomB x[q]
            · rw [ha] at HAT
              have HV : Hid (dottedB s = false) := Lib.hid (HBAD.out (by
                unfold pieceOk
                rw [HNE.out]
                have : (bs x).all atomB = false := by
                  rw [List.all_eq_false]
                  exact ⟨x[q], List.mem_of_getElem? (bs_get x q hlq), by simp [ha]⟩
                rw [this]; rfl))
              clear ha
              go_wp2_with (go_at_call 159; refine (HAT.out _).mono ?_; rintro e w' ⟨rfl, rfl⟩)
              go_ret
              exact ⟨by rw [HV.out]; rfl, HB.out⟩
            · rw [ha] at HAT
              have HH := Lib.hid ha
              clear ha
              go_wp2_with (go_at_call 159; refine (HAT.out _).mono ?_; rintro e w' ⟨rfl, rfl⟩)
              go_round
              case rel =>
                refine ⟨q + 1, by omega, by go_num, fun j hj hjq => ?_⟩
                by_cases e : j = q
                · subst e; exact HH.out
                · exact HA.out j hj (by omega)
              case measure => simp [intOf]; omega
          · obtain rfl : q = x.size := by omega
            have HP : Hid (pieceOk (bs x) = true) := Lib.hid (by
              unfold pieceOk
              rw [HNE.out]
              have : (bs x).all atomB = true := by
                rw [List.all_eq_true]
                intro b hb
                obtain ⟨j, hj, e⟩ := List.mem_iff_getElem.1 hb
                have hj' : j < x.size := by rw [← bs_len]; exact hj
                have := HA.out j hj' hj'
                rw [← e]
                have e2 := bs_get x j hj'
                rw [List.getElem?_eq_getElem hj] at e2
                injection e2 with e2
              rw [this]; rfl)
            go_wp2_with fail
            go_round
            case rel =>
              refine ⟨k + 1, by omega, by go_num, fun j y hj hy => ?_⟩
              by_cases e : j = k
              · subst e
                rw [HX.out] at hy
                injection hy with hy
                subst hy
                exact HP.out
              · exact HG.out j y (by omega) hy
            case measure => simp [intOf]; omega
    · obtain rfl : k = L.length := by omega
      have HV : Hid (dottedB s = true) := Lib.hid (by
        rw [← HS.out, List.all_eq_true]
        intro x hx
        obtain ⟨j, hj, e⟩ := List.mem_iff_getElem.1 hx
        exact HG.out j x hj (by rw [List.getElem?_eq_getElem hj, e]))
      go_wp2_with fail
      go_ret
      exact ⟨by rw [HV.out]; rfl, HB.out⟩
theorem dotGo_at (s : ByteArray) (d : Bool) (k : Nat) (h : k < s.size) : dotGo d ((bs s).drop k) = if s[k] = 46 then !d && dotGo true ((bs s).drop (k + 1)) else atomB s[k] && dotGo false ((bs s).drop (k + 1)) := by
  have hk : k < (bs s).length := by rw [bs_len]; exact h
  have e := bs_get s k h
  rw [List.getElem?_eq_getElem hk] at e
  injection e with e
  rw [List.drop_eq_getElem_cons hk, e]
  rfl
set_option maxRecDepth 20000 in
theorem dottedMay_any (s : ByteArray) (w : World) (hs : s.size ≤ maxLen) : Calls Tryd.prog 127 #[.string s] w fun e w' => e = .returned (.bool (dottedB s)) ∧ Below w.heap.size w w' := by
  unfold maxLen at hs
  have hbl := Lib.hid (bs_len s)
  go_enter Tryd.func127, Tryd.ntmps127
  go_wp2_with fail
  go_loopw [3, 4] (fun v i wr => ∃ (k : Nat) (l : UInt8), k ≤ s.size ∧ i = .int .i64 k ∧ v = .int .u8 l.toNat ∧ dottedB s = dotGo (decide (l = 46)) ((bs s).drop k) ∧ Below w.heap.size w wr) (fun _ i _ => s.size - (intOf i).toNat)
  case atStart => exact ⟨0, 46, by omega, rfl, rfl, by rfl, Below.refl _ _⟩
  case round =>
    obtain ⟨k, l, hk, rfl, rfl, hd, hb⟩ := hrel
    have HD := Lib.hid hd
    have HB := Lib.hid hb
    clear hd hb
    have hl := l.toNat_lt
    by_cases hlt : k < s.size
    · have HS := Lib.hid (dotGo_at s (decide (l = 46)) k hlt)
      by_cases he : s[k] = 46
      · have i1 : ((s[k].toNat : Int) == 46) = true := by rw [he]; rfl
        by_cases hl46 : l = 46
        · subst hl46
          have HV : Hid (dottedB s = false) := Lib.hid (by rw [HD.out, HS.out, if_pos he]; rfl)
          clear he
          go_wp2_with fail
          go_ret
          exact ⟨by rw [HV.out]; rfl, HB.out⟩
        · have HV : Hid (dottedB s = dotGo (decide (s[k] = 46)) ((bs s).drop (k + 1))) := Lib.hid (by rw [HD.out, HS.out, if_pos he, he]; simp [hl46])
          have i2 : ((l.toNat : Int) == 46) = false := beq_false_of_ne (ne46 hl46)
          have i3 : ((s[k].toNat : Int) != 46) = false := by rw [he]; rfl
          have i4 : (s[k].toNat : Int) = 46 := by rw [he]; rfl
          clear he hl46
          go_wp2_with fail
          go_roundw
          case rel => exact ⟨k + 1, s[k], by omega, by go_num, by first | rfl | rw [i4], HV.out, HB.out⟩
          case measure => simp [intOf]; omega
      · have i1 : ((s[k].toNat : Int) == 46) = false := beq_false_of_ne (ne46 he)
        have i3 : ((s[k].toNat : Int) != 46) = true := by simp only [bne, i1]; rfl
        have i4 : ¬ (s[k].toNat : Int) = 46 := by simpa using i1
        have HAT := Lib.hid (fun wx => atomByte_any s[k] wx)
        cases ha : atomB s[k]
        · rw [ha] at HAT
          have HV : Hid (dottedB s = false) := Lib.hid (by rw [HD.out, HS.out, if_neg he, ha]; rfl)
          clear he ha
          go_wp2_with (go_at_call 164; refine (HAT.out _).mono ?_; rintro e w1 ⟨rfl, hb1⟩)
          go_ret
          exact ⟨by rw [HV.out]; rfl, HB.out.trans (hb1.mono HB.out.size)⟩
        · rw [ha] at HAT
          have HV : Hid (dottedB s = dotGo (decide (s[k] = 46)) ((bs s).drop (k + 1))) := Lib.hid (by rw [HD.out, HS.out, if_neg he, ha]; simp [he])
          clear he ha
          go_wp2_with (go_at_call 164; refine (HAT.out _).mono ?_; rintro e w1 ⟨rfl, hb1⟩)
          go_roundw
          case rel => exact ⟨k + 1, s[k], by omega, by go_num, rfl, HV.out, HB.out.trans (hb1.mono HB.out.size)⟩
          case measure => simp [intOf]; omega
    · obtain rfl : k = s.size := by omega
      have HV : Hid (dottedB s = !decide (l = 46)) := Lib.hid (by rw [HD.out, List.drop_eq_nil_of_le (by rw [hbl.out]; omega)]; rfl)
      by_cases hl46 : l = 46
      · subst hl46
        go_wp2_with fail
        go_ret
        exact ⟨by rw [HV.out]; rfl, HB.out⟩
      · have i2 : ((l.toNat : Int) != 46) = true := by
          have : ((l.toNat : Int) == 46) = false := beq_false_of_ne (ne46 hl46)
          simp only [bne, this]; rfl
        have HW : Hid (dottedB s = true) := Lib.hid (by rw [HV.out]; simp [hl46])
        clear hl46
        go_wp2_with fail
        go_ret
        exact ⟨by rw [HW.out]; rfl, HB.out⟩
end Go.Proofs.YthpkjmbdjnelfaaDoor

namespace Go.Proofs.YthpkjmbdjnelfaaDoor
open Go.RowKit
set_option linter.unusedSimpArgs false
set_option linter.unusedVariables false
structure Adr where
  l : ByteArray
  d : ByteArray
def Adr.val (a : Adr) : Value := .agg #[.string a.l, .string a.d]
def addrE (a : Adr) : Int := if dottedB a.l = false ∨ dottedB a.d = false then 3 else if 99 < a.l.size + a.d.size then 1 else 0
structure AdrOk (a : Adr) : Prop where
  hl : a.l.size ≤ 1048576
  hd : a.d.size ≤ 1048576
theorem addrE_l {a : Adr} (h : dottedB a.l = false) : addrE a = 3 := if_pos (.inl h)
theorem addrE_d {a : Adr} (h : dottedB a.d = false) : addrE a = 3 := if_pos (.inr h)
theorem addrE_big {a : Adr} (h1 : dottedB a.l = true) (h2 : dottedB a.d = true) (h : 99 < a.l.size + a.d.size) : addrE a = 1 := by unfold addrE; rw [if_neg (by rw [h1, h2]; decide), if_pos h]
theorem addrE_ok {a : Adr} (h1 : dottedB a.l = true) (h2 : dottedB a.d = true) (h : ¬ 99 < a.l.size + a.d.size) : addrE a = 0 := by unfold addrE; rw [if_neg (by rw [h1, h2]; decide), if_neg h]
set_option maxRecDepth 20000 in
theorem whoCheck_any (a : Adr) (w : World) (hz : a.l.size ≤ 1048576 ∧ a.d.size ≤ 1048576) (h0 : Lib0 w) : Calls Tryd.prog 56 #[a.val] w fun e w' => e = .returned (.int .i64 (addrE a)) ∧ Below w.heap.size w w' := by
  have m1 := hz.1
  have m2 := hz.2
  clear hz
  have H0 := Lib.hid h0
  clear h0
  have tok : True := trivial
  cases h1 : dottedB a.l
  · have HF := Lib.hid (addrE_l h1)
    have H1 := Lib.hid h1
    clear h1
    obtain ⟨l, d⟩ := a
    unfold Adr.val
    dsimp only at *
    go_enter Tryd.func56, Tryd.ntmps56
    go_wp2_with (first | (go_at_call 121; clear tok; refine (dotted_any l _ ?_ ?_).mono ?_; omega; exact Lib0.below H0.out (Below.alloc (Below.refl _ _) (Nat.le_refl _) _); rintro e w1 ⟨rfl, hb1⟩; rw [H1.out]; obtain ⟨k1a, k1b, k1c⟩ := own_at hb1 (b := w.heap.size) (by first | omega | (simp; done) | (simp; omega)); have z2 := hb1.size; (try simp only [World.size_alloc, World.size_setCell] at z2)))
    go_ret
    refine ⟨by rw [HF.out]; rfl, ?_⟩
    (repeat (first | with_reducible exact hb1 | with_reducible refine Below.trans ?_ (Below.mono hb1 ?_) | with_reducible exact Below.refl _ _ | with_reducible refine Below.setCell ?_ ?_ _ | with_reducible refine Below.alloc ?_ ?_ _ | with_reducible refine Below.drew ?_ | with_reducible refine below_drewN ?_ _))
    all_goals (first | omega | (simp; done) | (simp; omega) | (dsimp only [World.drew] at *; omega))

  cases h2 : dottedB a.d
  · have HF := Lib.hid (addrE_d h2)
    have H1 := Lib.hid h1
    have H2 := Lib.hid h2
    clear h1 h2
    obtain ⟨l, d⟩ := a
    unfold Adr.val
    dsimp only at *
    go_enter Tryd.func56, Tryd.ntmps56
    go_wp2_with (first | (go_at_call 121; clear tok; refine (dotted_any l _ ?_ ?_).mono ?_; omega; exact Lib0.below H0.out (Below.alloc (Below.refl _ _) (Nat.le_refl _) _); rintro e w1 ⟨rfl, hb1⟩; rw [H1.out]; obtain ⟨k3a, k3b, k3c⟩ := own_at hb1 (b := w.heap.size) (by first | omega | (simp; done) | (simp; omega)); have z4 := hb1.size; (try simp only [World.size_alloc, World.size_setCell] at z4)) | (go_at_call 121; refine (dotted_any d _ ?_ ?_).mono ?_; omega; exact Lib0.below (Lib0.below H0.out (Below.alloc (Below.refl _ _) (Nat.le_refl _) _)) hb1; rintro e w2 ⟨rfl, hb2⟩; rw [H2.out]; obtain ⟨k5a, k5b, k5c⟩ := own_at hb2 (b := w.heap.size) (by first | omega | (simp; done) | (simp; omega)); have z6 := hb2.size; (try simp only [World.size_alloc, World.size_setCell] at z6)))
    go_ret
    refine ⟨by rw [HF.out]; rfl, ?_⟩
    (repeat (first | with_reducible exact hb2 | with_reducible refine Below.trans ?_ (Below.mono hb2 ?_) | with_reducible exact hb1 | with_reducible refine Below.trans ?_ (Below.mono hb1 ?_) | with_reducible exact Below.refl _ _ | with_reducible refine Below.setCell ?_ ?_ _ | with_reducible refine Below.alloc ?_ ?_ _ | with_reducible refine Below.drew ?_ | with_reducible refine below_drewN ?_ _))
    all_goals (first | omega | (simp; done) | (simp; omega) | (dsimp only [World.drew] at *; omega))

  by_cases h3 : 99 < a.l.size + a.d.size
  · have HF := Lib.hid (addrE_big h1 h2 h3)
    have H1 := Lib.hid h1
    have H2 := Lib.hid h2
    clear h1 h2
    obtain ⟨l, d⟩ := a
    unfold Adr.val
    dsimp only at *
    have i1 : (100 : Int) < (l.size : Int) + 1 + d.size := by omega
    go_enter Tryd.func56, Tryd.ntmps56
    go_wp2_with (first | (go_at_call 121; clear tok; refine (dotted_any l _ ?_ ?_).mono ?_; omega; exact Lib0.below H0.out (Below.alloc (Below.refl _ _) (Nat.le_refl _) _); rintro e w1 ⟨rfl, hb1⟩; rw [H1.out]; obtain ⟨k7a, k7b, k7c⟩ := own_at hb1 (b := w.heap.size) (by first | omega | (simp; done) | (simp; omega)); have z8 := hb1.size; (try simp only [World.size_alloc, World.size_setCell] at z8)) | (go_at_call 121; refine (dotted_any d _ ?_ ?_).mono ?_; omega; exact Lib0.below (Lib0.below H0.out (Below.alloc (Below.refl _ _) (Nat.le_refl _) _)) hb1; rintro e w2 ⟨rfl, hb2⟩; rw [H2.out]; obtain ⟨k9a, k9b, k9c⟩ := own_at hb2 (b := w.heap.size) (by first | omega | (simp; done) | (simp; omega)); have z10 := hb2.size; (try simp only [World.size_alloc, World.size_setCell] at z10)))
    go_ret
    refine ⟨by rw [HF.out]; rfl, ?_⟩
    (repeat (first | with_reducible exact hb2 | with_reducible refine Below.trans ?_ (Below.mono hb2 ?_) | with_reducible exact hb1 | with_reducible refine Below.trans ?_ (Below.mono hb1 ?_) | with_reducible exact Below.refl _ _ | with_reducible refine Below.setCell ?_ ?_ _ | with_reducible refine Below.alloc ?_ ?_ _ | with_reducible refine Below.drew ?_ | with_reducible refine below_drewN ?_ _))
    all_goals (first | omega | (simp; done) | (simp; omega) | (dsimp only [World.drew] at *; omega))

  · have HF := Lib.hid (addrE_ok h1 h2 h3)
    have H1 := Lib.hid h1
    have H2 := Lib.hid h2
    clear h1 h2
    obtain ⟨l, d⟩ := a
    unfold Adr.val
    dsimp only at *
    have i1 : ¬ ((100 : Int) < (l.size : Int) + 1 + d.size) := by omega
    clear h3
    go_enter Tryd.func56, Tryd.ntmps56
    go_wp2_with (first | (go_at_call 121; clear tok; refine (dotted_any l _ ?_ ?_).mono ?_; omega; exact Lib0.below H0.out (Below.alloc (Below.refl _ _) (Nat.le_refl _) _); rintro e w1 ⟨rfl, hb1⟩; rw [H1.out]; obtain ⟨k11a, k11b, k11c⟩ := own_at hb1 (b := w.heap.size) (by first | omega | (simp; done) | (simp; omega)); have z12 := hb1.size; (try simp only [World.size_alloc, World.size_setCell] at z12)) | (go_at_call 121; refine (dotted_any d _ ?_ ?_).mono ?_; omega; exact Lib0.below (Lib0.below H0.out (Below.alloc (Below.refl _ _) (Nat.le_refl _) _)) hb1; rintro e w2 ⟨rfl, hb2⟩; rw [H2.out]; obtain ⟨k13a, k13b, k13c⟩ := own_at hb2 (b := w.heap.size) (by first | omega | (simp; done) | (simp; omega)); have z14 := hb2.size; (try simp only [World.size_alloc, World.size_setCell] at z14)))
    go_ret
    refine ⟨by rw [HF.out]; rfl, ?_⟩
    (repeat (first | with_reducible exact hb2 | with_reducible refine Below.trans ?_ (Below.mono hb2 ?_) | with_reducible exact hb1 | with_reducible refine Below.trans ?_ (Below.mono hb1 ?_) | with_reducible exact Below.refl _ _ | with_reducible refine Below.setCell ?_ ?_ _ | with_reducible refine Below.alloc ?_ ?_ _ | with_reducible refine Below.drew ?_ | with_reducible refine below_drewN ?_ _))
    all_goals (first | omega | (simp; done) | (simp; omega) | (dsimp only [World.drew] at *; omega))

set_option maxRecDepth 20000 in
theorem addrFault_any (a : Adr) (w : World) (hz : a.l.size ≤ 1048576 ∧ a.d.size ≤ 1048576) : Calls Tryd.prog 64 #[a.val] w fun e w' => e = .returned (.int .i64 (addrE a)) ∧ Below w.heap.size w w' := by
  have m1 := hz.1
  have m2 := hz.2
  clear hz
  have tok : True := trivial
  cases h1 : dottedB a.l
  · have HF := Lib.hid (addrE_l h1)
    have H1 := Lib.hid h1
    clear h1
    obtain ⟨l, d⟩ := a
    unfold Adr.val
    dsimp only at *
    go_enter Tryd.func64, Tryd.ntmps64
    go_wp2_with (first | (go_at_call 127; clear tok; refine (dottedMay_any l _ ?_).mono ?_; (unfold maxLen; omega); rintro e w1 ⟨rfl, hb1⟩; rw [H1.out]; obtain ⟨k15a, k15b, k15c⟩ := own_at hb1 (b := w.heap.size) (by first | omega | (simp; done) | (simp; omega)); have z16 := hb1.size; (try simp only [World.size_alloc, World.size_setCell] at z16)))
    go_ret
    refine ⟨by rw [HF.out]; rfl, ?_⟩
    (repeat (first | with_reducible exact hb1 | with_reducible refine Below.trans ?_ (Below.mono hb1 ?_) | with_reducible exact Below.refl _ _ | with_reducible refine Below.setCell ?_ ?_ _ | with_reducible refine Below.alloc ?_ ?_ _ | with_reducible refine Below.drew ?_ | with_reducible refine below_drewN ?_ _))
    all_goals (first | omega | (simp; done) | (simp; omega) | (dsimp only [World.drew] at *; omega))

  cases h2 : dottedB a.d
  · have HF := Lib.hid (addrE_d h2)
    have H1 := Lib.hid h1
    have H2 := Lib.hid h2
    clear h1 h2
    obtain ⟨l, d⟩ := a
    unfold Adr.val
    dsimp only at *
    go_enter Tryd.func64, Tryd.ntmps64
    go_wp2_with (first | (go_at_call 127; clear tok; refine (dottedMay_any l _ ?_).mono ?_; (unfold maxLen; omega); rintro e w1 ⟨rfl, hb1⟩; rw [H1.out]; obtain ⟨k17a, k17b, k17c⟩ := own_at hb1 (b := w.heap.size) (by first | omega | (simp; done) | (simp; omega)); have z18 := hb1.size; (try simp only [World.size_alloc, World.size_setCell] at z18)) | (go_at_call 127; refine (dottedMay_any d _ ?_).mono ?_; (unfold maxLen; omega); rintro e w2 ⟨rfl, hb2⟩; rw [H2.out]; obtain ⟨k19a, k19b, k19c⟩ := own_at hb2 (b := w.heap.size) (by first | omega | (simp; done) | (simp; omega)); have z20 := hb2.size; (try simp only [World.size_alloc, World.size_setCell] at z20)))
    go_ret
    refine ⟨by rw [HF.out]; rfl, ?_⟩
    (repeat (first | with_reducible exact hb2 | with_reducible refine Below.trans ?_ (Below.mono hb2 ?_) | with_reducible exact hb1 | with_reducible refine Below.trans ?_ (Below.mono hb1 ?_) | with_reducible exact Below.refl _ _ | with_reducible refine Below.setCell ?_ ?_ _ | with_reducible refine Below.alloc ?_ ?_ _ | with_reducible refine Below.drew ?_ | with_reducible refine below_drewN ?_ _))
    all_goals (first | omega | (simp; done) | (simp; omega) | (dsimp only [World.drew] at *; omega))

  by_cases h3 : 99 < a.l.size + a.d.size
  · have HF := Lib.hid (addrE_big h1 h2 h3)
    have H1 := Lib.hid h1
    have H2 := Lib.hid h2
    clear h1 h2
    obtain ⟨l, d⟩ := a
    unfold Adr.val
    dsimp only at *
    have i1 : (99 : Int) < (l.size : Int) + d.size := by omega
    go_enter Tryd.func64, Tryd.ntmps64
    go_wp2_with (first | (go_at_call 127; clear tok; refine (dottedMay_any l _ ?_).mono ?_; (unfold maxLen; omega); rintro e w1 ⟨rfl, hb1⟩; rw [H1.out]; obtain ⟨k21a, k21b, k21c⟩ := own_at hb1 (b := w.heap.size) (by first | omega | (simp; done) | (simp; omega)); have z22 := hb1.size; (try simp only [World.size_alloc, World.size_setCell] at z22)) | (go_at_call 127; refine (dottedMay_any d _ ?_).mono ?_; (unfold maxLen; omega); rintro e w2 ⟨rfl, hb2⟩; rw [H2.out]; obtain ⟨k23a, k23b, k23c⟩ := own_at hb2 (b := w.heap.size) (by first | omega | (simp; done) | (simp; omega)); have z24 := hb2.size; (try simp only [World.size_alloc, World.size_setCell] at z24)))
    go_ret
    refine ⟨by rw [HF.out]; rfl, ?_⟩
    (repeat (first | with_reducible exact hb2 | with_reducible refine Below.trans ?_ (Below.mono hb2 ?_) | with_reducible exact hb1 | with_reducible refine Below.trans ?_ (Below.mono hb1 ?_) | with_reducible exact Below.refl _ _ | with_reducible refine Below.setCell ?_ ?_ _ | with_reducible refine Below.alloc ?_ ?_ _ | with_reducible refine Below.drew ?_ | with_reducible refine below_drewN ?_ _))
    all_goals (first | omega | (simp; done) | (simp; omega) | (dsimp only [World.drew] at *; omega))

  · have HF := Lib.hid (addrE_ok h1 h2 h3)
    have H1 := Lib.hid h1
    have H2 := Lib.hid h2
    clear h1 h2
    obtain ⟨l, d⟩ := a
    unfold Adr.val
    dsimp only at *
    have i1 : ¬ ((99 : Int) < (l.size : Int) + d.size) := by omega
    clear h3
    go_enter Tryd.func64, Tryd.ntmps64
    go_wp2_with (first | (go_at_call 127; clear tok; refine (dottedMay_any l _ ?_).mono ?_; (unfold maxLen; omega); rintro e w1 ⟨rfl, hb1⟩; rw [H1.out]; obtain ⟨k25a, k25b, k25c⟩ := own_at hb1 (b := w.heap.size) (by first | omega | (simp; done) | (simp; omega)); have z26 := hb1.size; (try simp only [World.size_alloc, World.size_setCell] at z26)) | (go_at_call 127; refine (dottedMay_any d _ ?_).mono ?_; (unfold maxLen; omega); rintro e w2 ⟨rfl, hb2⟩; rw [H2.out]; obtain ⟨k27a, k27b, k27c⟩ := own_at hb2 (b := w.heap.size) (by first | omega | (simp; done) | (simp; omega)); have z28 := hb2.size; (try simp only [World.size_alloc, World.size_setCell] at z28)))
    go_ret
    refine ⟨by rw [HF.out]; rfl, ?_⟩
    (repeat (first | with_reducible exact hb2 | with_reducible refine Below.trans ?_ (Below.mono hb2 ?_) | with_reducible exact hb1 | with_reducible refine Below.trans ?_ (Below.mono hb1 ?_) | with_reducible exact Below.refl _ _ | with_reducible refine Below.setCell ?_ ?_ _ | with_reducible refine Below.alloc ?_ ?_ _ | with_reducible refine Below.drew ?_ | with_reducible refine below_drewN ?_ _))
    all_goals (first | omega | (simp; done) | (simp; omega) | (dsimp only [World.drew] at *; omega))

end Go.Proofs.YthpkjmbdjnelfaaDoor

/- Texts that the law RuleReads rests on, packed. -/
import Derived.Test.YtidldcfpmehpiaaGreatDoorGD
import Derived.Test.YtidldcfpmehpiaaGreatDoorShelfS
import Derived.Test.YtidldcfpmehpiaaGreatDoorRuleReadsK0
import Derived.Deep.LoopGhost
import Derived.Lib.IndexAny
import Derived.Deep.RegionHeld3
import Derived.Test.YtidldcfpmehpiaaGreatDoorGC
import Derived.Test.YtidldcfpmehpiaaGreatDoorGT
import Derived.Test.YtidldcfpmehpiaaGreatDoorGB
set_option linter.unusedSimpArgs false
set_option linter.unusedVariables false
set_option maxRecDepth 20000
set_option maxHeartbeats 4000000
namespace Go.Proofs.YtidldcfpmehpiaaGreatDoor
section
open Go.RowKit
def Lib0 (w : World) : Prop := 3 < w.heap.size ∧ ∃ m : Int, w.cell? ⟨3, 0, none⟩ = some (.int .i64 m)
theorem Lib0.below {w w' : World} (h : Lib0 w) (hb : Below w.heap.size w w') : Lib0 w' := by
 obtain ⟨h1, m, h2⟩ := h
 exact ⟨Nat.lt_of_lt_of_le h1 hb.size, m, (hb.cell (p := ⟨3, 0, none⟩) h1).trans h2⟩
theorem Lib0.open_ {w : World} (h : w.ShapedOpen Tryz.prog) : Lib0 w := by
 obtain ⟨m, hm⟩ : ∃ m, w.cell? ⟨3, 0, none⟩ = some (.int .i64 m) := Go.Proofs.cell_of_shapedOpen_int (zero := #[.int .i64 0]) (t := 3) h (of_decide_eq_true (by kernel_rfl)) (by kernel_rfl) rfl (by kernel_rfl) (by kernel_rfl) Tryz.underlying3
 exact ⟨World.block_lt_of_cell? w ⟨3, 0, none⟩ hm, m, hm⟩
end
section
open Go.RowKit
theorem RF.of_row {w : World} {g : Nat} {l : List ByteArray} {e : TypeId} {fr : Nat × Nat} (h : w.heap[g]? = some (.cells (l.map Value.string).toArray e fr)) (n : Nat) (hn : l.length = n) (hm : n ≤ maxLen) :
  RF strF w (· < w.heap.size) (.slice (some ⟨g, 0, none⟩) n n) l := by
 have e' : l.flatMap strF.enc = l.map Value.string := by
  clear h hn
  induction l with
  | nil => rfl
  | cons z r ih => simp only [List.map_cons, List.flatMap_cons, ih]; rfl
 refine ⟨some ⟨g, 0, none⟩, n, by simp [hn], by simp [hn], hm, by simp, ?_, fun _ => ⟨g, 0, rfl, (Array.getElem?_eq_some_iff.1 h).1, fun j u hu => ?_⟩⟩
 ·rw [e']
  simp [strF]
 ·rw [e'] at hu
  rw [Nat.zero_add, cell_of_row _ _ _ _ e fr h]
  simpa using hu
theorem Split_any (s : ByteArray) (w : World) (hs : s.size < 4294967281) (h0 : Lib0 w) :
  Calls Tryz.prog 204 #[.string s, .string dotSep] w fun e w' => ∃ v', e = .returned v' ∧ RF strF w' (· < w'.heap.size) v' (splitL s) ∧ Below w.heap.size w w' := by
 obtain ⟨_, m, hm⟩ := h0
 refine (Tryz.strings_Split s dotSep m w hs hm (by decide)).mono ?_
 rintro e w' ⟨rfl, rfl⟩
 refine ⟨_, rfl, RF.of_row (fr := (0, 0)) (heap_alloc_new w _) _ (splitL_len s) ?_, (Below.refl _ _).alloc (Nat.le_refl _) _⟩
 have := countB_small s
 unfold maxLen
 omega
end
section
open Go.RowKit
theorem atom_any (c : UInt8) (w : World) : Calls Tryz.prog 205 #[.int .u8 c.toNat] w fun e w' => e = .returned (.bool (atomB c)) ∧ w = w' := by
  have hu : (c.toNat : Int) < 256 := by have := c.toNat_lt; omega
  have hcu : ((c.toNat : Int).toNat.toUInt8) = c := by simp
  have HI := Lib.hid (fun wx => by have h := Tryz.strings_IndexByte (mk marksL) (c.toNat : Int) wx; rw [hcu] at h; exact h)
  clear hcu
  have hc : (c.toNat : Int) < 48 ∨ (48 ≤ (c.toNat : Int) ∧ (c.toNat : Int) ≤ 57) ∨ (58 ≤ (c.toNat : Int) ∧ (c.toNat : Int) < 65) ∨ (65 ≤ (c.toNat : Int) ∧ (c.toNat : Int) ≤ 90) ∨ (91 ≤ (c.toNat : Int) ∧ (c.toNat : Int) ≤ 96) ∨ (97 ≤ (c.toNat : Int) ∧ (c.toNat : Int) ≤ 122) ∨ 122 < (c.toNat : Int) := by omega
  rcases hc with h | ⟨h, h'⟩ | ⟨h, h'⟩ | ⟨h, h'⟩ | ⟨h, h'⟩ | ⟨h, h'⟩ | h
  all_goals first | have HB := Lib.hid (alnum_yes (c := c) (by omega)) | have HB := Lib.hid (alnum_no (c := c) (by omega))
  all_goals
    go_enter Tryz.func205, Tryz.ntmps205
    go_wp2_with (go_at_call 173; refine (HI.out _).mono ?_; rintro e w' ⟨rfl, rfl⟩)
    go_ret
    refine ⟨?_, rfl⟩
    rw [HB.out]
    first
    | rfl
    | (have e1 : decide ((c.toNat : Int) ≤ 57) = false := by (rw [decide_eq_false_iff_not]; omega)
       first
       | (simp only [e1, Bool.false_or]; rfl)
       | (have e2 : decide ((c.toNat : Int) ≤ 90) = false := by (rw [decide_eq_false_iff_not]; omega)
          first
          | (simp only [e1, e2, Bool.false_or, Bool.or_false]; rfl)
          | (have e3 : decide ((c.toNat : Int) ≤ 122) = false := by (rw [decide_eq_false_iff_not]; omega)
             simp only [e1, e2, e3, Bool.false_or, Bool.or_false]; rfl)))
theorem getD_get {l : List UInt8} {k : Nat} (h : k < l.length) : l.getD k 0 = l[k] := by simp [List.getD, List.getElem?_eq_getElem h]
theorem marks_cell (w : World) (k : Nat) (hk : k < 19) : (w.alloc (.cells #[.int .u8 33, .int .u8 35, .int .u8 36, .int .u8 37, .int .u8 38, .int .u8 39, .int .u8 42, .int .u8 43, .int .u8 45, .int .u8 47, .int .u8 61, .int .u8 63, .int .u8 94, .int .u8 95, .int .u8 123, .int .u8 124, .int .u8 125, .int .u8 126, .int .u8 96] 5)).cell? ⟨w.heap.size, k, none⟩ = some (.int .u8 ((marksL.getD k 0).toNat : Int)) := by
 rw [cell_of_row _ _ _ _ 5 (0, 0) (heap_alloc_new w _)]
 have : ∀ k, k < 19 → (#[Value.int .u8 33, .int .u8 35, .int .u8 36, .int .u8 37, .int .u8 38, .int .u8 39, .int .u8 42, .int .u8 43, .int .u8 45, .int .u8 47, .int .u8 61, .int .u8 63, .int .u8 94, .int .u8 95, .int .u8 123, .int .u8 124, .int .u8 125, .int .u8 126, .int .u8 96] : Array Value)[k]? = some (.int .u8 ((marksL.getD k 0).toNat : Int)) := by
  intro k hk
  obtain rfl | rfl | rfl | rfl | rfl | rfl | rfl | rfl | rfl | rfl | rfl | rfl | rfl | rfl | rfl | rfl | rfl | rfl | rfl : k = 0 ∨ k = 1 ∨ k = 2 ∨ k = 3 ∨ k = 4 ∨ k = 5 ∨ k = 6 ∨ k = 7 ∨ k = 8 ∨ k = 9 ∨ k = 10 ∨ k = 11 ∨ k = 12 ∨ k = 13 ∨ k = 14 ∨ k = 15 ∨ k = 16 ∨ k = 17 ∨ k = 18 := by omega
  all_goals rfl
 exact this k hk
theorem atomByte_any (c : UInt8) (w : World) : Calls Tryz.prog 223 #[.int .u8 c.toNat] w fun e w' => e = .returned (.bool (atomB c)) ∧ Below w.heap.size w w' := by
 have hu : (c.toNat : Int) < 256 := by have := c.toNat_lt; omega
 by_cases ha : (97 ≤ (c.toNat : Int) ∧ (c.toNat : Int) ≤ 122) ∨ (65 ≤ (c.toNat : Int) ∧ (c.toNat : Int) ≤ 90) ∨ (48 ≤ (c.toNat : Int) ∧ (c.toNat : Int) ≤ 57)
 ·have HB := Lib.hid (alnum_yes (c := c) ha)
  rcases ha with ⟨h, h'⟩ | ⟨h, h'⟩ | ⟨h, h'⟩
  all_goals
   go_enter Tryz.func223, Tryz.ntmps223
   go_wp2_with (go_at_call 98; first | (refine (In_yes _ _ _ _ ?_ ?_).mono ?_; omega; omega; rintro e w' ⟨rfl, rfl⟩) | (refine (In_no _ _ _ _ ?_).mono ?_; omega; rintro e w' ⟨rfl, rfl⟩))
   go_ret
   exact ⟨by rw [HB.out]; rfl, Below.refl _ _⟩
 ·have HB := Lib.hid (alnum_no (c := c) ha)
  have HN1 : (c.toNat : Int) < 97 ∨ 122 < (c.toNat : Int) := by omega
  have HN2 : (c.toNat : Int) < 65 ∨ 90 < (c.toNat : Int) := by omega
  have HN3 : (c.toNat : Int) < 48 ∨ 57 < (c.toNat : Int) := by omega
  have H1 := Lib.hid HN1
  have H2 := Lib.hid HN2
  have H3 := Lib.hid HN3
  clear HN1 HN2 HN3 ha
  have HM := Lib.hid (marks_cell w)
  go_enter Tryz.func223, Tryz.ntmps223
  go_wp2_with (go_at_call 98; refine (In_no _ _ _ _ ?_).mono ?_; (first | exact H1.out | exact H2.out | exact H3.out); rintro e w' ⟨rfl, rfl⟩)
  go_loop [4] (fun i => ∃ k : Nat, k ≤ 19 ∧ i = .int .i64 k ∧ ∀ j, j < k → marksL.getD j 0 ≠ c) (fun i => 19 - (intOf i).toNat)
  case atStart => exact ⟨0, by omega, rfl, fun j hj => by omega⟩
  case round =>
   obtain ⟨k, hk, rfl, hn⟩ := hrel
   have HN := Lib.hid hn
   clear hn
   by_cases hlt : k < 19
   ·have hc := HM.out k hlt
    obtain ⟨d, hd⟩ : ∃ d, d = marksL.getD k 0 := ⟨_, rfl⟩
    rw [← hd] at hc
    have HD := Lib.hid hd
    clear hd
    have i0 : (0 : Int) ≤ k := by omega
    have i1 : (k : Int) < 19 := by omega
    by_cases he : d = c
    ·subst he
     have HF : Hid (decide (0 ≤ Lib.indexByte marksL d) = true) := Lib.hid (by
      rw [decide_eq_true_eq, indexByte_mem, HD.out]
      have hk' : k < marksL.length := hlt
      rw [getD_get hk']
      exact List.getElem_mem hk')
     go_wp2_with fail
     go_ret
     exact ⟨by rw [HB.out, HF.out]; rfl, (Below.refl _ _).alloc (Nat.le_refl _) _⟩
    ·have HE := Lib.hid he
     have i2 : ((d.toNat : Int) == (c.toNat : Int)) = false := beq_false_of_ne fun h => he (UInt8.toNat_inj.1 (by omega))
     clear he
     go_wp2_with fail
     go_round
     case rel =>
      refine ⟨k + 1, by omega, by go_num, fun j hj => ?_⟩
      by_cases e : j = k
      ·subst e
       rw [← HD.out]
       exact HE.out
      ·exact HN.out j (by omega)
     case measure => simp [intOf]; omega
   ·obtain rfl : k = 19 := by omega
    have HF : Hid (decide (0 ≤ Lib.indexByte marksL c) = false) := Lib.hid (by
     rw [decide_eq_false_iff_not, indexByte_mem]
     intro hm
     obtain ⟨j, hj, e⟩ := List.mem_iff_getElem.1 hm
     refine HN.out j hj ?_
     rw [getD_get hj, e])
    go_wp2_with fail
    go_ret
    exact ⟨by rw [HB.out, HF.out]; rfl, (Below.refl _ _).alloc (Nat.le_refl _) _⟩
end
section
open Go.RowKit
theorem ne46 {l : UInt8} (h : l ≠ 46) : (l.toNat : Int) ≠ 46 := fun e => h (UInt8.toNat_inj.1 (by have : (46 : UInt8).toNat = 46 := rfl; omega))
theorem dotted_any (s : ByteArray) (w : World) (hs : s.size ≤ 1048576) (h0 : Lib0 w) : Calls Tryz.prog 121 #[.string s] w fun e w' => e = .returned (.bool (dottedB s)) ∧ Below w.heap.size w w' := by
 have HS := Lib.hid (splitL_all s)
 have HZ := Lib.hid (fun x (hx : x ∈ splitL s) => splitB_small dotSep _ s x hx)
 have HC := Lib.hid (fun wx h => Split_any s wx (by omega) h)
 obtain ⟨L, hL⟩ : ∃ L, L = splitL s := ⟨_, rfl⟩
 rw [← hL] at HS HC HZ
 have HL := Lib.hid hL
 have H0 := Lib.hid h0
 clear hL h0
 go_enter Tryz.func121, Tryz.ntmps121
 go_wp2_with fail
 refine (HC.out _ H0.out).mono ?_
 rintro e w1 ⟨v, rfl, hr, hb⟩
 obtain ⟨A, c, rfl, hr⟩ := hr.ex
 have hm := hr.bound
 unfold maxLen at hm
 have H := Lib.hid hr
 have HB := Lib.hid hb
 clear hr hb
 go_wp2_with fail
 go_loop [9] (fun i => ∃ k : Nat, k ≤ L.length ∧ i = .int .i64 k ∧ ∀ (j : Nat) x, j < k → L[j]? = some x → pieceOk (bs x) = true) (fun i => L.length - (intOf i).toNat)
 case atStart => exact ⟨0, by omega, rfl, fun j x hj => by omega⟩
 case round =>
  obtain ⟨k, hk, rfl, hg⟩ := hrel
  have HG := Lib.hid hg
  clear hg
  by_cases hlt : k < L.length
  ·obtain ⟨b, off, x, rfl, _, hx, hc⟩ := str_cell H.out hlt
   have hxs := HZ.out x (List.mem_of_getElem? hx)
   have HX := Lib.hid hx
   have HBAD : Hid (pieceOk (bs x) = false → dottedB s = false) := Lib.hid (fun h => by
    rw [← HS.out, List.all_eq_false]
    exact ⟨x, List.mem_of_getElem? HX.out, by simp [h]⟩)
   clear hx
   by_cases hz : x.size = 0
   ·have HV : Hid (dottedB s = false) := Lib.hid (HBAD.out (by
     have : bs x = [] := List.eq_nil_of_length_eq_zero (by rw [bs_len]; exact hz)
     rw [this]; rfl))
    have hx0 : x = ByteArray.empty := by
     apply bs_inj
     have : bs x = [] := List.eq_nil_of_length_eq_zero (by rw [bs_len]; exact hz)
     rw [this]; rfl
    subst hx0
    clear hz hxs
    go_wp2_with fail
    go_ret
    exact ⟨by rw [HV.out]; rfl, HB.out⟩
   ·have i1 : x.toList.isEmpty = false := by
     rw [ByteArray.toList_eq]
     cases he : x.data.toList with
     | nil => exfalso; apply hz; rw [← bs_len]; unfold bs; rw [he]; rfl
     | cons a b => rfl
    have HNE : Hid ((bs x).isEmpty = false) := Lib.hid (by rw [ByteArray.toList_eq] at i1; exact i1)
    have i2 : ¬ x.toList = [] := by intro h; rw [h] at i1; cases i1
    clear hz
    go_wp2_with fail
    go_loop [17] (fun i => ∃ q : Nat, q ≤ x.size ∧ i = .int .i64 q ∧ ∀ (j : Nat) (hj : j < x.size), j < q → atomB x[j] = true) (fun i => x.size - (intOf i).toNat)
    case atStart => exact ⟨0, by omega, rfl, fun j x hj => by omega⟩
    case round =>
     obtain ⟨q, hq, rfl, hat⟩ := hrel
     have HA := Lib.hid hat
     clear hat
     by_cases hlq : q < x.size
     ·have HAT := Lib.hid (fun wx => atom_any x[q] wx)
      cases ha : atomB x[q]
      ·rw [ha] at HAT
       have HV : Hid (dottedB s = false) := Lib.hid (HBAD.out (by
        unfold pieceOk
        rw [HNE.out]
        have : (bs x).all atomB = false := by
         rw [List.all_eq_false]
         exact ⟨x[q], List.mem_of_getElem? (bs_get x q hlq), by simp [ha]⟩
        rw [this]; rfl))
       clear ha
       go_wp2_with (go_at_call 205; refine (HAT.out _).mono ?_; rintro e w' ⟨rfl, rfl⟩)
       go_ret
       exact ⟨by rw [HV.out]; rfl, HB.out⟩
      ·rw [ha] at HAT
       have HH := Lib.hid ha
       clear ha
       go_wp2_with (go_at_call 205; refine (HAT.out _).mono ?_; rintro e w' ⟨rfl, rfl⟩)
       go_round
       case rel =>
        refine ⟨q + 1, by omega, by go_num, fun j hj hjq => ?_⟩
        by_cases e : j = q
        ·subst e; exact HH.out
        ·exact HA.out j hj (by omega)
       case measure => simp [intOf]; omega
     ·obtain rfl : q = x.size := by omega
      have HP : Hid (pieceOk (bs x) = true) := Lib.hid (by
       unfold pieceOk
       rw [HNE.out]
       have : (bs x).all atomB = true := by
        rw [List.all_eq_true]
        intro b hb
        obtain ⟨j, hj, e⟩ := List.mem_iff_getElem.1 hb
        have hj' : j < x.size := by rw [← bs_len]; exact hj
        have := HA.out j hj' hj'
        rw [← e]
        have e2 := bs_get x j hj'
        rw [List.getElem?_eq_getElem hj] at e2
        injection e2 with e2
       rw [this]; rfl)
      go_wp2_with fail
      go_round
      case rel =>
       refine ⟨k + 1, by omega, by go_num, fun j y hj hy => ?_⟩
       by_cases e : j = k
       ·subst e
        rw [HX.out] at hy
        injection hy with hy
        subst hy
        exact HP.out
       ·exact HG.out j y (by omega) hy
      case measure => simp [intOf]; omega
  ·obtain rfl : k = L.length := by omega
   have HV : Hid (dottedB s = true) := Lib.hid (by
    rw [← HS.out, List.all_eq_true]
    intro x hx
    obtain ⟨j, hj, e⟩ := List.mem_iff_getElem.1 hx
    exact HG.out j x hj (by rw [List.getElem?_eq_getElem hj, e]))
   go_wp2_with fail
   go_ret
   exact ⟨by rw [HV.out]; rfl, HB.out⟩
theorem dotGo_at (s : ByteArray) (d : Bool) (k : Nat) (h : k < s.size) : dotGo d ((bs s).drop k) = if s[k] = 46 then !d && dotGo true ((bs s).drop (k + 1)) else atomB s[k] && dotGo false ((bs s).drop (k + 1)) := by
 have hk : k < (bs s).length := by rw [bs_len]; exact h
 have e := bs_get s k h
 rw [List.getElem?_eq_getElem hk] at e
 injection e with e
 rw [List.drop_eq_getElem_cons hk, e]
 rfl
theorem dottedMay_any (s : ByteArray) (w : World) (hs : s.size ≤ maxLen) : Calls Tryz.prog 134 #[.string s] w fun e w' => e = .returned (.bool (dottedB s)) ∧ Below w.heap.size w w' := by
 unfold maxLen at hs
 have hbl := Lib.hid (bs_len s)
 go_enter Tryz.func134, Tryz.ntmps134
 go_wp2_with fail
 go_loopw [3, 4] (fun v i wr => ∃ (k : Nat) (l : UInt8), k ≤ s.size ∧ i = .int .i64 k ∧ v = .int .u8 l.toNat ∧ dottedB s = dotGo (decide (l = 46)) ((bs s).drop k) ∧ Below w.heap.size w wr) (fun _ i _ => s.size - (intOf i).toNat)
 case atStart => exact ⟨0, 46, by omega, rfl, rfl, by rfl, Below.refl _ _⟩
 case round =>
  obtain ⟨k, l, hk, rfl, rfl, hd, hb⟩ := hrel
  have HD := Lib.hid hd
  have HB := Lib.hid hb
  clear hd hb
  have hl := l.toNat_lt
  by_cases hlt : k < s.size
  ·have HS := Lib.hid (dotGo_at s (decide (l = 46)) k hlt)
   by_cases he : s[k] = 46
   ·have i1 : ((s[k].toNat : Int) == 46) = true := by rw [he]; rfl
    by_cases hl46 : l = 46
    ·subst hl46
     have HV : Hid (dottedB s = false) := Lib.hid (by rw [HD.out, HS.out, if_pos he]; rfl)
     clear he
     go_wp2_with fail
     go_ret
     exact ⟨by rw [HV.out]; rfl, HB.out⟩
    ·have HV : Hid (dottedB s = dotGo (decide (s[k] = 46)) ((bs s).drop (k + 1))) := Lib.hid (by rw [HD.out, HS.out, if_pos he, he]; simp [hl46])
     have i2 : ((l.toNat : Int) == 46) = false := beq_false_of_ne (ne46 hl46)
     have i3 : ((s[k].toNat : Int) != 46) = false := by rw [he]; rfl
     have i4 : (s[k].toNat : Int) = 46 := by rw [he]; rfl
     clear he hl46
     go_wp2_with fail
     go_roundw
     case rel => exact ⟨k + 1, s[k], by omega, by go_num, by first | rfl | rw [i4], HV.out, HB.out⟩
     case measure => simp [intOf]; omega
   ·have i1 : ((s[k].toNat : Int) == 46) = false := beq_false_of_ne (ne46 he)
    have i3 : ((s[k].toNat : Int) != 46) = true := by simp only [bne, i1]; rfl
    have i4 : ¬ (s[k].toNat : Int) = 46 := by simpa using i1
    have HAT := Lib.hid (fun wx => atomByte_any s[k] wx)
    cases ha : atomB s[k]
    ·rw [ha] at HAT
     have HV : Hid (dottedB s = false) := Lib.hid (by rw [HD.out, HS.out, if_neg he, ha]; rfl)
     clear he ha
     go_wp2_with (go_at_call 223; refine (HAT.out _).mono ?_; rintro e w1 ⟨rfl, hb1⟩)
     go_ret
     exact ⟨by rw [HV.out]; rfl, HB.out.trans (hb1.mono HB.out.size)⟩
    ·rw [ha] at HAT
     have HV : Hid (dottedB s = dotGo (decide (s[k] = 46)) ((bs s).drop (k + 1))) := Lib.hid (by rw [HD.out, HS.out, if_neg he, ha]; simp [he])
     clear he ha
     go_wp2_with (go_at_call 223; refine (HAT.out _).mono ?_; rintro e w1 ⟨rfl, hb1⟩)
     go_roundw
     case rel => exact ⟨k + 1, s[k], by omega, by go_num, rfl, HV.out, HB.out.trans (hb1.mono HB.out.size)⟩
     case measure => simp [intOf]; omega
  ·obtain rfl : k = s.size := by omega
   have HV : Hid (dottedB s = !decide (l = 46)) := Lib.hid (by rw [HD.out, List.drop_eq_nil_of_le (by rw [hbl.out]; omega)]; rfl)
   by_cases hl46 : l = 46
   ·subst hl46
    go_wp2_with fail
    go_ret
    exact ⟨by rw [HV.out]; rfl, HB.out⟩
   ·have i2 : ((l.toNat : Int) != 46) = true := by
     have : ((l.toNat : Int) == 46) = false := beq_false_of_ne (ne46 hl46)
     simp only [bne, this]; rfl
    have HW : Hid (dottedB s = true) := Lib.hid (by rw [HV.out]; simp [hl46])
    clear hl46
    go_wp2_with fail
    go_ret
    exact ⟨by rw [HW.out]; rfl, HB.out⟩
end
section
open Go.RowKit
structure Adr where
 l : ByteArray
 d : ByteArray
def Adr.val (a : Adr) : Value := .agg #[.string a.l, .string a.d]
def addrE (a : Adr) : Int := if dottedB a.l = false ∨ dottedB a.d = false then 3 else if 99 < a.l.size + a.d.size then 1 else 0
structure AdrOk (a : Adr) : Prop where
 hl : a.l.size ≤ 1048576
 hd : a.d.size ≤ 1048576
theorem addrE_l {a : Adr} (h : dottedB a.l = false) : addrE a = 3 := if_pos (.inl h)
theorem addrE_d {a : Adr} (h : dottedB a.d = false) : addrE a = 3 := if_pos (.inr h)
theorem addrE_big {a : Adr} (h1 : dottedB a.l = true) (h2 : dottedB a.d = true) (h : 99 < a.l.size + a.d.size) : addrE a = 1 := by unfold addrE; rw [if_neg (by rw [h1, h2]; decide), if_pos h]
theorem addrE_ok {a : Adr} (h1 : dottedB a.l = true) (h2 : dottedB a.d = true) (h : ¬ 99 < a.l.size + a.d.size) : addrE a = 0 := by unfold addrE; rw [if_neg (by rw [h1, h2]; decide), if_neg h]
theorem whoCheck_any (a : Adr) (w : World) (hz : a.l.size ≤ 1048576 ∧ a.d.size ≤ 1048576) (h0 : Lib0 w) : Calls Tryz.prog 68 #[a.val] w fun e w' => e = .returned (.int .i64 (addrE a)) ∧ Below w.heap.size w w' := by
 have m1 := hz.1
 have m2 := hz.2
 clear hz
 have H0 := Lib.hid h0
 clear h0
 have tok : True := trivial
 cases h1 : dottedB a.l
 ·have HF := Lib.hid (addrE_l h1)
  have H1 := Lib.hid h1
  clear h1
  obtain ⟨l, d⟩ := a
  unfold Adr.val
  dsimp only at *
  go_enter Tryz.func68, Tryz.ntmps68
  go_wp2_with (first | (go_at_call 121; clear tok; refine (dotted_any l _ ?_ ?_).mono ?_; omega; exact Lib0.below H0.out (Below.alloc (Below.refl _ _) (Nat.le_refl _) _); rintro e w1 ⟨rfl, hb1⟩; rw [H1.out]; obtain ⟨k1a, k1b, k1c⟩ := own_at hb1 (b := w.heap.size) (by first | omega | (simp; done) | (simp; omega)); have z2 := hb1.size; (try simp only [World.size_alloc, World.size_setCell] at z2)))
  go_ret
  refine ⟨by rw [HF.out]; rfl, ?_⟩
  (repeat (first | with_reducible exact hb1 | with_reducible refine Below.trans ?_ (Below.mono hb1 ?_) | with_reducible exact Below.refl _ _ | with_reducible refine Below.setCell ?_ ?_ _ | with_reducible refine Below.alloc ?_ ?_ _ | with_reducible refine Below.drew ?_ | with_reducible refine below_drewN ?_ _))
  all_goals (first | omega | (simp; done) | (simp; omega) | (dsimp only [World.drew] at *; omega))
 cases h2 : dottedB a.d
 ·have HF := Lib.hid (addrE_d h2)
  have H1 := Lib.hid h1
  have H2 := Lib.hid h2
  clear h1 h2
  obtain ⟨l, d⟩ := a
  unfold Adr.val
  dsimp only at *
  go_enter Tryz.func68, Tryz.ntmps68
  go_wp2_with (first | (go_at_call 121; clear tok; refine (dotted_any l _ ?_ ?_).mono ?_; omega; exact Lib0.below H0.out (Below.alloc (Below.refl _ _) (Nat.le_refl _) _); rintro e w1 ⟨rfl, hb1⟩; rw [H1.out]; obtain ⟨k3a, k3b, k3c⟩ := own_at hb1 (b := w.heap.size) (by first | omega | (simp; done) | (simp; omega)); have z4 := hb1.size; (try simp only [World.size_alloc, World.size_setCell] at z4)) | (go_at_call 121; refine (dotted_any d _ ?_ ?_).mono ?_; omega; exact Lib0.below (Lib0.below H0.out (Below.alloc (Below.refl _ _) (Nat.le_refl _) _)) hb1; rintro e w2 ⟨rfl, hb2⟩; rw [H2.out]; obtain ⟨k5a, k5b, k5c⟩ := own_at hb2 (b := w.heap.size) (by first | omega | (simp; done) | (simp; omega)); have z6 := hb2.size; (try simp only [World.size_alloc, World.size_setCell] at z6)))
  go_ret
  refine ⟨by rw [HF.out]; rfl, ?_⟩
  (repeat (first | with_reducible exact hb2 | with_reducible refine Below.trans ?_ (Below.mono hb2 ?_) | with_reducible exact hb1 | with_reducible refine Below.trans ?_ (Below.mono hb1 ?_) | with_reducible exact Below.refl _ _ | with_reducible refine Below.setCell ?_ ?_ _ | with_reducible refine Below.alloc ?_ ?_ _ | with_reducible refine Below.drew ?_ | with_reducible refine below_drewN ?_ _))
  all_goals (first | omega | (simp; done) | (simp; omega) | (dsimp only [World.drew] at *; omega))
 by_cases h3 : 99 < a.l.size + a.d.size
 ·have HF := Lib.hid (addrE_big h1 h2 h3)
  have H1 := Lib.hid h1
  have H2 := Lib.hid h2
  clear h1 h2
  obtain ⟨l, d⟩ := a
  unfold Adr.val
  dsimp only at *
  have i1 : (100 : Int) < (l.size : Int) + 1 + d.size := by omega
  go_enter Tryz.func68, Tryz.ntmps68
  go_wp2_with (first | (go_at_call 121; clear tok; refine (dotted_any l _ ?_ ?_).mono ?_; omega; exact Lib0.below H0.out (Below.alloc (Below.refl _ _) (Nat.le_refl _) _); rintro e w1 ⟨rfl, hb1⟩; rw [H1.out]; obtain ⟨k7a, k7b, k7c⟩ := own_at hb1 (b := w.heap.size) (by first | omega | (simp; done) | (simp; omega)); have z8 := hb1.size; (try simp only [World.size_alloc, World.size_setCell] at z8)) | (go_at_call 121; refine (dotted_any d _ ?_ ?_).mono ?_; omega; exact Lib0.below (Lib0.below H0.out (Below.alloc (Below.refl _ _) (Nat.le_refl _) _)) hb1; rintro e w2 ⟨rfl, hb2⟩; rw [H2.out]; obtain ⟨k9a, k9b, k9c⟩ := own_at hb2 (b := w.heap.size) (by first | omega | (simp; done) | (simp; omega)); have z10 := hb2.size; (try simp only [World.size_alloc, World.size_setCell] at z10)))
  go_ret
  refine ⟨by rw [HF.out]; rfl, ?_⟩
  (repeat (first | with_reducible exact hb2 | with_reducible refine Below.trans ?_ (Below.mono hb2 ?_) | with_reducible exact hb1 | with_reducible refine Below.trans ?_ (Below.mono hb1 ?_) | with_reducible exact Below.refl _ _ | with_reducible refine Below.setCell ?_ ?_ _ | with_reducible refine Below.alloc ?_ ?_ _ | with_reducible refine Below.drew ?_ | with_reducible refine below_drewN ?_ _))
  all_goals (first | omega | (simp; done) | (simp; omega) | (dsimp only [World.drew] at *; omega))
 ·have HF := Lib.hid (addrE_ok h1 h2 h3)
  have H1 := Lib.hid h1
  have H2 := Lib.hid h2
  clear h1 h2
  obtain ⟨l, d⟩ := a
  unfold Adr.val
  dsimp only at *
  have i1 : ¬ ((100 : Int) < (l.size : Int) + 1 + d.size) := by omega
  clear h3
  go_enter Tryz.func68, Tryz.ntmps68
  go_wp2_with (first | (go_at_call 121; clear tok; refine (dotted_any l _ ?_ ?_).mono ?_; omega; exact Lib0.below H0.out (Below.alloc (Below.refl _ _) (Nat.le_refl _) _); rintro e w1 ⟨rfl, hb1⟩; rw [H1.out]; obtain ⟨k11a, k11b, k11c⟩ := own_at hb1 (b := w.heap.size) (by first | omega | (simp; done) | (simp; omega)); have z12 := hb1.size; (try simp only [World.size_alloc, World.size_setCell] at z12)) | (go_at_call 121; refine (dotted_any d _ ?_ ?_).mono ?_; omega; exact Lib0.below (Lib0.below H0.out (Below.alloc (Below.refl _ _) (Nat.le_refl _) _)) hb1; rintro e w2 ⟨rfl, hb2⟩; rw [H2.out]; obtain ⟨k13a, k13b, k13c⟩ := own_at hb2 (b := w.heap.size) (by first | omega | (simp; done) | (simp; omega)); have z14 := hb2.size; (try simp only [World.size_alloc, World.size_setCell] at z14)))
  go_ret
  refine ⟨by rw [HF.out]; rfl, ?_⟩
  (repeat (first | with_reducible exact hb2 | with_reducible refine Below.trans ?_ (Below.mono hb2 ?_) | with_reducible exact hb1 | with_reducible refine Below.trans ?_ (Below.mono hb1 ?_) | with_reducible exact Below.refl _ _ | with_reducible refine Below.setCell ?_ ?_ _ | with_reducible refine Below.alloc ?_ ?_ _ | with_reducible refine Below.drew ?_ | with_reducible refine below_drewN ?_ _))
  all_goals (first | omega | (simp; done) | (simp; omega) | (dsimp only [World.drew] at *; omega))
theorem addrFault_big (a : Adr) (w : World) (hz : a.l.size ≤ 4294967296 ∧ a.d.size ≤ 4294967296) : Calls Tryz.prog 74 #[a.val] w fun e w' => e = .returned (.int .i64 (addrE a)) ∧ Below w.heap.size w w' := by
 have m1 := hz.1
 have m2 := hz.2
 clear hz
 have tok : True := trivial
 cases h1 : dottedB a.l
 ·have HF := Lib.hid (addrE_l h1)
  have H1 := Lib.hid h1
  clear h1
  obtain ⟨l, d⟩ := a
  unfold Adr.val
  dsimp only at *
  go_enter Tryz.func74, Tryz.ntmps74
  go_wp2_with (first | (go_at_call 134; clear tok; refine (dottedMay_any l _ ?_).mono ?_; (unfold maxLen; omega); rintro e w1 ⟨rfl, hb1⟩; rw [H1.out]; obtain ⟨k15a, k15b, k15c⟩ := own_at hb1 (b := w.heap.size) (by first | omega | (simp; done) | (simp; omega)); have z16 := hb1.size; (try simp only [World.size_alloc, World.size_setCell] at z16)))
  go_ret
  refine ⟨by rw [HF.out]; rfl, ?_⟩
  (repeat (first | with_reducible exact hb1 | with_reducible refine Below.trans ?_ (Below.mono hb1 ?_) | with_reducible exact Below.refl _ _ | with_reducible refine Below.setCell ?_ ?_ _ | with_reducible refine Below.alloc ?_ ?_ _ | with_reducible refine Below.drew ?_ | with_reducible refine below_drewN ?_ _))
  all_goals (first | omega | (simp; done) | (simp; omega) | (dsimp only [World.drew] at *; omega))
 cases h2 : dottedB a.d
 ·have HF := Lib.hid (addrE_d h2)
  have H1 := Lib.hid h1
  have H2 := Lib.hid h2
  clear h1 h2
  obtain ⟨l, d⟩ := a
  unfold Adr.val
  dsimp only at *
  go_enter Tryz.func74, Tryz.ntmps74
  go_wp2_with (first | (go_at_call 134; clear tok; refine (dottedMay_any l _ ?_).mono ?_; (unfold maxLen; omega); rintro e w1 ⟨rfl, hb1⟩; rw [H1.out]; obtain ⟨k17a, k17b, k17c⟩ := own_at hb1 (b := w.heap.size) (by first | omega | (simp; done) | (simp; omega)); have z18 := hb1.size; (try simp only [World.size_alloc, World.size_setCell] at z18)) | (go_at_call 134; refine (dottedMay_any d _ ?_).mono ?_; (unfold maxLen; omega); rintro e w2 ⟨rfl, hb2⟩; rw [H2.out]; obtain ⟨k19a, k19b, k19c⟩ := own_at hb2 (b := w.heap.size) (by first | omega | (simp; done) | (simp; omega)); have z20 := hb2.size; (try simp only [World.size_alloc, World.size_setCell] at z20)))
  go_ret
  refine ⟨by rw [HF.out]; rfl, ?_⟩
  (repeat (first | with_reducible exact hb2 | with_reducible refine Below.trans ?_ (Below.mono hb2 ?_) | with_reducible exact hb1 | with_reducible refine Below.trans ?_ (Below.mono hb1 ?_) | with_reducible exact Below.refl _ _ | with_reducible refine Below.setCell ?_ ?_ _ | with_reducible refine Below.alloc ?_ ?_ _ | with_reducible refine Below.drew ?_ | with_reducible refine below_drewN ?_ _))
  all_goals (first | omega | (simp; done) | (simp; omega) | (dsimp only [World.drew] at *; omega))
 by_cases h3 : 99 < a.l.size + a.d.size
 ·have HF := Lib.hid (addrE_big h1 h2 h3)
  have H1 := Lib.hid h1
  have H2 := Lib.hid h2
  clear h1 h2
  obtain ⟨l, d⟩ := a
  unfold Adr.val
  dsimp only at *
  have i1 : (99 : Int) < (l.size : Int) + d.size := by omega
  go_enter Tryz.func74, Tryz.ntmps74
  go_wp2_with (first | (go_at_call 134; clear tok; refine (dottedMay_any l _ ?_).mono ?_; (unfold maxLen; omega); rintro e w1 ⟨rfl, hb1⟩; rw [H1.out]; obtain ⟨k21a, k21b, k21c⟩ := own_at hb1 (b := w.heap.size) (by first | omega | (simp; done) | (simp; omega)); have z22 := hb1.size; (try simp only [World.size_alloc, World.size_setCell] at z22)) | (go_at_call 134; refine (dottedMay_any d _ ?_).mono ?_; (unfold maxLen; omega); rintro e w2 ⟨rfl, hb2⟩; rw [H2.out]; obtain ⟨k23a, k23b, k23c⟩ := own_at hb2 (b := w.heap.size) (by first | omega | (simp; done) | (simp; omega)); have z24 := hb2.size; (try simp only [World.size_alloc, World.size_setCell] at z24)))
  go_ret
  refine ⟨by rw [HF.out]; rfl, ?_⟩
  (repeat (first | with_reducible exact hb2 | with_reducible refine Below.trans ?_ (Below.mono hb2 ?_) | with_reducible exact hb1 | with_reducible refine Below.trans ?_ (Below.mono hb1 ?_) | with_reducible exact Below.refl _ _ | with_reducible refine Below.setCell ?_ ?_ _ | with_reducible refine Below.alloc ?_ ?_ _ | with_reducible refine Below.drew ?_ | with_reducible refine below_drewN ?_ _))
  all_goals (first | omega | (simp; done) | (simp; omega) | (dsimp only [World.drew] at *; omega))
 ·have HF := Lib.hid (addrE_ok h1 h2 h3)
  have H1 := Lib.hid h1
  have H2 := Lib.hid h2
  clear h1 h2
  obtain ⟨l, d⟩ := a
  unfold Adr.val
  dsimp only at *
  have i1 : ¬ ((99 : Int) < (l.size : Int) + d.size) := by omega
  clear h3
  go_enter Tryz.func74, Tryz.ntmps74
  go_wp2_with (first | (go_at_call 134; clear tok; refine (dottedMay_any l _ ?_).mono ?_; (unfold maxLen; omega); rintro e w1 ⟨rfl, hb1⟩; rw [H1.out]; obtain ⟨k25a, k25b, k25c⟩ := own_at hb1 (b := w.heap.size) (by first | omega | (simp; done) | (simp; omega)); have z26 := hb1.size; (try simp only [World.size_alloc, World.size_setCell] at z26)) | (go_at_call 134; refine (dottedMay_any d _ ?_).mono ?_; (unfold maxLen; omega); rintro e w2 ⟨rfl, hb2⟩; rw [H2.out]; obtain ⟨k27a, k27b, k27c⟩ := own_at hb2 (b := w.heap.size) (by first | omega | (simp; done) | (simp; omega)); have z28 := hb2.size; (try simp only [World.size_alloc, World.size_setCell] at z28)))
  go_ret
  refine ⟨by rw [HF.out]; rfl, ?_⟩
  (repeat (first | with_reducible exact hb2 | with_reducible refine Below.trans ?_ (Below.mono hb2 ?_) | with_reducible exact hb1 | with_reducible refine Below.trans ?_ (Below.mono hb1 ?_) | with_reducible exact Below.refl _ _ | with_reducible refine Below.setCell ?_ ?_ _ | with_reducible refine Below.alloc ?_ ?_ _ | with_reducible refine Below.drew ?_ | with_reducible refine below_drewN ?_ _))
  all_goals (first | omega | (simp; done) | (simp; omega) | (dsimp only [World.drew] at *; omega))
end
section
open Go.RowKit
def LibT (T : Tbl) : Prop := ∃ m : Int, (T 3)[0]? = some (.int .i64 m)
theorem LibT.lib0 {T : Tbl} (h : LibT T) {F : Frz} {w : World} (hF : ∀ b o u, F b o = some u → w.cell? ⟨b, o, none⟩ = some u) (hT : ∀ g j x, (T g)[j]? = some x → ∃ u, F g j = some u ∧ VD F x u) : Lib0 w := by
 obtain ⟨m, hm⟩ := h
 obtain ⟨u, h1, h2⟩ := tbl_cell hF hT hm
 obtain rfl := h2.int_inv
 exact ⟨World.block_lt_of_cell? w ⟨3, 0, none⟩ h1, m, h1⟩
theorem atom_p (T : Tbl) (c : UInt8) : PC Tryz.prog T 205 [.d (.int .u8 c.toNat)] (.d (.bool (atomB c))) := PC.old Tryz.call205 fun F w vs hF hT R => by
 obtain ⟨v, rfl, hv⟩ := slr1 R
 obtain rfl := hv.int_inv
 refine (atom_any c w).mono ?_
 rintro e w' ⟨rfl, rfl⟩
 exact ⟨_, rfl, Below.refl _ _, .bool _⟩
theorem atomByte_p (T : Tbl) (c : UInt8) : PC Tryz.prog T 223 [.d (.int .u8 c.toNat)] (.d (.bool (atomB c))) := PC.old Tryz.call223 fun F w vs hF hT R => by
 obtain ⟨v, rfl, hv⟩ := slr1 R
 obtain rfl := hv.int_inv
 refine (atomByte_any c w).mono ?_
 rintro e w' ⟨rfl, hb⟩
 exact ⟨_, rfl, hb, .bool _⟩
theorem adr_vs {G : Gh} {l d : Tx} {vs : Array Value} (R : SlR G [.agg [.d (.str l), .d (.str d)]] vs) : ∃ a : Adr, vs = #[a.val] ∧ a.l.data.toList = l ∧ a.d.data.toList = d := by
 obtain ⟨v, rfl, hv⟩ := slr1 R
 obtain ⟨us, rfl, hu⟩ := hv.agg_inv
 obtain ⟨x, y, rfl, hx, hy⟩ := slr2 hu
 obtain ⟨p, rfl, h1, _⟩ := hx.str_inv
 obtain ⟨q, rfl, h2, _⟩ := hy.str_inv
 exact ⟨⟨p, q⟩, rfl, h1, h2⟩
theorem adrE_of {a : Adr} {l d : Tx} (h1 : a.l.data.toList = l) (h2 : a.d.data.toList = d) : addrE a = adrE l d := by
 subst h1 h2
 simp only [addrE, adrE, dottedB, bs, size_data]
 congr
theorem whoCheck_p (T : Tbl) (hL : LibT T) (l d : Tx) (h1 : l.length ≤ 1048576) (h2 : d.length ≤ 1048576) : PC Tryz.prog T 68 [.agg [.d (.str l), .d (.str d)]] (.d (.int .i64 (adrE l d))) := PC.old Tryz.call68 fun F w vs hF hT R => by
 obtain ⟨a, rfl, e1, e2⟩ := adr_vs R
 refine (whoCheck_any a w ⟨by rw [← size_data, e1]; exact h1, by rw [← size_data, e2]; exact h2⟩ (hL.lib0 hF hT)).mono ?_
 rintro e w' ⟨rfl, hb⟩
 exact ⟨_, rfl, hb, by rw [adrE_of e1 e2]; exact .int _ _⟩
theorem addrFault_bp (T : Tbl) (l d : Tx) (h1 : l.length ≤ 4294967296) (h2 : d.length ≤ 4294967296) : PC Tryz.prog T 74 [.agg [.d (.str l), .d (.str d)]] (.d (.int .i64 (adrE l d))) := PC.old Tryz.call74 fun F w vs hF hT R => by
 obtain ⟨a, rfl, e1, e2⟩ := adr_vs R
 refine (addrFault_big a w ⟨by rw [← size_data, e1]; exact h1, by rw [← size_data, e2]; exact h2⟩).mono ?_
 rintro e w' ⟨rfl, hb⟩
 exact ⟨_, rfl, hb, by rw [adrE_of e1 e2]; exact .int _ _⟩
end
section
open Go.RowKit
open Go.ChangeShapes Go.WideShapes Go.ChangeAt
open Go.ChangeMaps (open_string)
set_option maxRecDepth 20000
end
section
open Go.RowKit
open Go.ChangeShapes Go.WideShapes Go.ChangeAt
def tabT : List (Nat × List D) → Tbl
 | [], _ => []
 | p :: l, g => if g = p.1 then p.2 else tabT l g
structure TabOk (W : World) (p : Nat × List D) : Prop where
 ok : ∀ (j : Nat) (x : D), p.2[j]? = some x → ∃ u, frzW W p.1 j = some u ∧ VD (frzW W) x u
theorem tabT_ok {W : World} : ∀ {l : List (Nat × List D)}, (∀ p ∈ l, TabOk W p) → ∀ g j x, (tabT l g)[j]? = some x → ∃ u, frzW W g j = some u ∧ VD (frzW W) x u
 | [], _, g, j, x, hx => by simp [tabT] at hx
 | p :: l, h, g, j, x, hx => by
  unfold tabT at hx
  split at hx
  ·rename_i hg
   subst hg
   exact (h p (List.mem_cons_self ..)).ok j x hx
  ·exact tabT_ok (fun q hq => h q (List.mem_cons_of_mem _ hq)) g j x hx
theorem TabOk.texts {W : World} {g : Nat} {zs : List (List UInt8)} (h : TextsAt W g zs) (hz : zs.all (fun z => Nat.ble z.length 4096) = true) : TabOk W (g, zs.map D.str) := ⟨fun j x hx => by
 rw [List.getElem?_map] at hx
 obtain ⟨z, hz1, rfl⟩ := Option.map_eq_some_iff.1 hx
 have := List.all_eq_true.1 hz z (List.mem_of_getElem? hz1)
 have hb := Nat.le_of_ble_eq_true this
 have hm : (4096 : Nat) ≤ maxLen := by decide
 exact ⟨_, h j z hz1, VD.bstr z (by omega)⟩⟩
theorem TabOk.int {W : World} {g : Nat} {m : Int} (h : W.cell? ⟨g, 0, none⟩ = some (.int .i64 m)) : TabOk W (g, [.int .i64 m]) := ⟨fun j x hx => by
 cases j with
 | zero => simp at hx; subst hx; exact ⟨_, h, .int _ _⟩
 | succ j => simp at hx⟩
end
section
open Go.RowKit
open Go.ChangeShapes Go.WideShapes Go.ChangeAt
mutual
def tsz : Tst → Nat
 | .mk _ _ _ n k _ _ l => (n.map fun s => s.length + 1).sum + (k.map fun s => s.length + 1).sum + tszL l + 5
def tszL : List Tst → Nat
 | [] => 0
 | t :: l => tsz t + tszL l
end
theorem tszL_eq (l : List Tst) : tszL l = (l.map tsz).sum := by
 induction l with
 | nil => rfl
 | cons t l ih => rw [tszL, ih]; rfl
mutual
def csz : Cmd → Nat
 | .mk _ x t a b => (x.map fun s => s.length + 1).sum + tsz t + cszL a + cszL b + 5
def cszL : List Cmd → Nat
 | [] => 0
 | t :: l => csz t + cszL l
end
theorem cszL_eq (l : List Cmd) : cszL l = (l.map csz).sum := by
 induction l with
 | nil => rfl
 | cons t l ih => rw [cszL, ih]; rfl
theorem strs_len (l : List Str) : l.length ≤ (l.map fun s => s.length + 1).sum := by
 induction l with
 | nil => simp
 | cons s l ih => simp only [List.map_cons, List.sum_cons, List.length_cons]; omega
theorem tsz_pos (t : Tst) : 5 ≤ tsz t := by cases t; rw [tsz]; omega
theorem csz_pos (t : Cmd) : 5 ≤ csz t := by cases t; rw [csz]; omega
theorem kids_len (l : List Tst) : 5 * l.length ≤ tszL l := by
 induction l with
 | nil => simp [tszL]
 | cons t l ih => have := tsz_pos t; rw [tszL, List.length_cons]; omega
theorem cmds_len (l : List Cmd) : 5 * l.length ≤ cszL l := by
 induction l with
 | nil => simp [cszL]
 | cons t l ih => have := csz_pos t; rw [cszL, List.length_cons]; omega
theorem tsz_mem {x : Tst} {l : List Tst} (h : x ∈ l) : tsz x ≤ tszL l := by
 induction l with
 | nil => simp at h
 | cons t l ih =>
  rw [tszL]
  rcases List.mem_cons.1 h with rfl | h
  ·omega
  ·have := ih h; omega
theorem csz_mem {x : Cmd} {l : List Cmd} (h : x ∈ l) : csz x ≤ cszL l := by
 induction l with
 | nil => simp at h
 | cons t l ih =>
  rw [cszL]
  rcases List.mem_cons.1 h with rfl | h
  ·omega
  ·have := ih h; omega
theorem tsz_eq (t : Tst) : tsz t = (t.names.map fun s => s.length + 1).sum + (t.keys.map fun s => s.length + 1).sum + tszL t.kids + 5 := by cases t; rw [tsz]; rfl
theorem csz_eq (t : Cmd) : csz t = (t.texts.map fun s => s.length + 1).sum + tsz t.test + cszL t.thn + cszL t.els + 5 := by cases t; rw [csz]; rfl
theorem Tst.ok_of (t : Tst) (h : tsz t ≤ 1048576) : t.Ok := by
 induction t using Tst.ind with
 | h t ih =>
  rw [tsz_eq] at h
  have h1 := strs_len t.names
  have h2 := strs_len t.keys
  have h3 := kids_len t.kids
  exact ⟨by omega, by omega, by omega, fun x hx => ih x hx (by have := tsz_mem hx; omega)⟩
theorem Cmd.ok_of (t : Cmd) (h : csz t ≤ 1048576) : t.Ok := by
 induction t using Cmd.ind with
 | h t ih ih2 =>
  rw [csz_eq] at h
  have h1 := strs_len t.texts
  have h3 := cmds_len t.thn
  have h4 := cmds_len t.els
  exact ⟨by omega, Tst.ok_of _ (by omega), by omega, by omega, fun x hx => ih x hx (by have := csz_mem hx; omega), fun x hx => ih2 x hx (by have := csz_mem hx; omega)⟩
theorem tT_len (t : Tst) : (tT t).length + 1 ≤ 6 * tsz t := by
 induction t using Tst.ind with
 | h t ih =>
  have hk : (tK t.kids).length ≤ 6 * tszL t.kids := by
   cases hh : t.kids with
   | nil => simp [tK]
   | cons x l => have := ih x (by rw [hh]; simp); rw [tK, tszL]; omega
  have hl : ∀ l f, (∀ x ∈ l, x ∈ t.kids) → (tTL l f).length ≤ 6 * tszL l := fun l => by
   induction l with
   | nil => intro f _; simp [tTL]
   | cons x l il =>
    intro f hm
    have h1 := ih x (hm x (by simp))
    have h2 := il false fun y hy => hm y (by simp [hy])
    rw [tTL, tszL]
    simp only [List.length_cons, List.length_append]
    omega
  have hl := hl t.kids true fun x hx => hx
  have h1 := strs_len t.names
  have h2 := strs_len t.keys
  have h4 := strsT_len t.names
  have h5 := strsT_len t.keys
  rw [tT_eq, tsz_eq]
  repeat' split
  all_goals simp only [List.length_cons, List.length_append, List.length_nil]
  all_goals omega
theorem cmT_len (c : Cmd) : (cmT c).length + 1 ≤ 6 * csz c := by
 induction c using Cmd.ind with
 | h c i1 i2 =>
  have hl : ∀ l, (∀ x ∈ l, (cmT x).length + 1 ≤ 6 * csz x) → (lsT l).length ≤ 6 * cszL l := fun l => by
   induction l with
   | nil => intro _; simp [lsT]
   | cons x l il =>
    intro hm
    have h1 := hm x (by simp)
    have h2 := il fun y hy => hm y (by simp [hy])
    rw [lsT, cszL]
    simp only [List.length_cons, List.length_append]
    omega
  have ha := hl c.thn i1
  have hb := hl c.els i2
  have hel : (elT c.els).length ≤ 6 * cszL c.els + 3 := by
   rcases Nat.eq_zero_or_pos c.els.length with h0 | h0
   ·rw [elT_0 c h0]; simp
   ·cases he : elsifC c with
    | true =>
     rw [elT_t c he h0]
     have := i2 _ (List.getElem_mem h0)
     have := csz_mem (List.getElem_mem h0)
     simp only [List.length_cons]
     omega
    | false =>
     rw [elT_f c he h0]
     simp only [List.length_cons, List.length_append, List.length_nil]
     omega
  have h1 := strs_len c.texts
  have h4 := strsT_len c.texts
  have h5 := tT_len c.test
  rw [cmT_eq, csz_eq]
  repeat' split
  all_goals simp only [List.length_cons, List.length_append, List.length_nil]
  all_goals omega
theorem lsT_len (l : List Cmd) : (lsT l).length ≤ 6 * cszL l := by
 induction l with
 | nil => simp [lsT]
 | cons x l ih =>
  have := cmT_len x
  rw [lsT, cszL]
  simp only [List.length_cons, List.length_append]
  omega
section
variable {H : Type} {enc : TypeId × Value → H} {W : World}
end
end
section
open Go.RowKit
def letterB (c : UInt8) : Bool := (97 ≤ c.toNat && c.toNat ≤ 122) || (65 ≤ c.toNat && c.toNat ≤ 90) || c.toNat == 95
def digitB (c : UInt8) : Bool := 48 ≤ c.toNat && c.toNat ≤ 57
def tokB (c : UInt8) : Bool := letterB c || digitB c
theorem letterB_true (c : UInt8) (h : (97 ≤ (c.toNat : Int) ∧ (c.toNat : Int) ≤ 122) ∨ (65 ≤ (c.toNat : Int) ∧ (c.toNat : Int) ≤ 90) ∨ (c.toNat : Int) = 95) : letterB c = true := by
 unfold letterB; simp; omega
theorem letterB_false (c : UInt8) (h : ¬ ((97 ≤ (c.toNat : Int) ∧ (c.toNat : Int) ≤ 122) ∨ (65 ≤ (c.toNat : Int) ∧ (c.toNat : Int) ≤ 90) ∨ (c.toNat : Int) = 95)) : letterB c = false := by
 cases hl : letterB c
 ·rfl
 ·exfalso
  unfold letterB at hl
  simp at hl
  omega
theorem digitB_true (c : UInt8) (h : 48 ≤ (c.toNat : Int) ∧ (c.toNat : Int) ≤ 57) : digitB c = true := by unfold digitB; simp; omega
theorem digitB_false (c : UInt8) (h : ¬ (48 ≤ (c.toNat : Int) ∧ (c.toNat : Int) ≤ 57)) : digitB c = false := by
 cases hl : digitB c
 ·rfl
 ·exfalso
  unfold digitB at hl
  simp at hl
  omega
theorem ne_or (c : UInt8) (n : Nat) : (c.toNat : Int) = n ∨ ((c.toNat : Int) == n) = false := by
 by_cases h : (c.toNat : Int) = n
 ·exact .inl h
 ·exact .inr (by simpa using h)
theorem letter_any (c : UInt8) (w : World) : Calls Tryz.prog 168 #[.int .u8 c.toNat] w fun e w' => e = .returned (.bool (letterB c)) ∧ w = w' := by
 have hu : (c.toNat : Int) < 256 := by have := c.toNat_lt; omega
 have hc : (c.toNat : Int) < 65 ∨ (65 ≤ (c.toNat : Int) ∧ (c.toNat : Int) ≤ 90) ∨ (91 ≤ (c.toNat : Int) ∧ (c.toNat : Int) < 95) ∨ (c.toNat : Int) = 95 ∨ (c.toNat : Int) = 96 ∨ (97 ≤ (c.toNat : Int) ∧ (c.toNat : Int) ≤ 122) ∨ 122 < (c.toNat : Int) := by omega
 have hne : (c.toNat : Int) = 95 ∨ ((c.toNat : Int) == 95) = false := ne_or c 95
 have hcase : ((c.toNat : Int) < 65 ∧ ((c.toNat : Int) == 95) = false) ∨ (65 ≤ (c.toNat : Int) ∧ (c.toNat : Int) ≤ 90) ∨ (91 ≤ (c.toNat : Int) ∧ (c.toNat : Int) ≤ 96 ∧ ((c.toNat : Int) == 95) = false) ∨ (c.toNat : Int) = 95 ∨ (97 ≤ (c.toNat : Int) ∧ (c.toNat : Int) ≤ 122) ∨ (122 < (c.toNat : Int) ∧ ((c.toNat : Int) == 95) = false) := by
  rcases hne with h | h
  ·exact .inr (.inr (.inr (.inl h)))
  ·have h' : (c.toNat : Int) ≠ 95 := by simpa using h
   by_cases h1 : (c.toNat : Int) < 65
   ·exact .inl ⟨h1, h⟩
   ·by_cases h2 : (c.toNat : Int) ≤ 90
    ·exact .inr (.inl ⟨by omega, h2⟩)
    ·by_cases h3 : (c.toNat : Int) ≤ 96
     ·exact .inr (.inr (.inl ⟨by omega, h3, h⟩))
     ·by_cases h4 : (c.toNat : Int) ≤ 122
      ·exact .inr (.inr (.inr (.inr (.inl ⟨by omega, h4⟩))))
      ·exact .inr (.inr (.inr (.inr (.inr ⟨by omega, h⟩))))
 clear hne hc
 rcases hcase with ⟨h, h'⟩ | ⟨h, h'⟩ | ⟨h, h', h''⟩ | h | ⟨h, h'⟩ | ⟨h, h'⟩
 ·have HB := Lib.hid (letterB_false c (by omega))
  go_enter Tryz.func168, Tryz.ntmps168
  go_wp2
  go_ret
  exact ⟨by rw [HB.out]; first | rfl | (simp; omega), rfl⟩
 ·have HB := Lib.hid (letterB_true c (by omega))
  go_enter Tryz.func168, Tryz.ntmps168
  go_wp2
  go_ret
  exact ⟨by rw [HB.out]; first | rfl | (simp; omega), rfl⟩
 ·have hn : (c.toNat : Int) ≠ 95 := by simpa using h''
  have HB := Lib.hid (letterB_false c (by omega))
  clear hn
  go_enter Tryz.func168, Tryz.ntmps168
  go_wp2
  go_ret
  exact ⟨by rw [HB.out]; first | rfl | (simp; omega), rfl⟩
 ·have HB := Lib.hid (letterB_true c (by omega))
  go_enter Tryz.func168, Tryz.ntmps168
  go_wp2
  go_ret
  exact ⟨by rw [HB.out]; first | rfl | (simp; omega), rfl⟩
 ·have HB := Lib.hid (letterB_true c (by omega))
  go_enter Tryz.func168, Tryz.ntmps168
  go_wp2
  go_ret
  exact ⟨by rw [HB.out]; first | rfl | (simp; omega), rfl⟩
 ·have HB := Lib.hid (letterB_false c (by omega))
  go_enter Tryz.func168, Tryz.ntmps168
  go_wp2
  go_ret
  exact ⟨by rw [HB.out]; first | rfl | (simp; omega), rfl⟩
theorem digit_any (c : UInt8) (w : World) : Calls Tryz.prog 170 #[.int .u8 c.toNat] w fun e w' => e = .returned (.bool (digitB c)) ∧ w = w' := by
 have hu : (c.toNat : Int) < 256 := by have := c.toNat_lt; omega
 have hc : (c.toNat : Int) < 48 ∨ (48 ≤ (c.toNat : Int) ∧ (c.toNat : Int) ≤ 57) ∨ 57 < (c.toNat : Int) := by omega
 rcases hc with h | ⟨h, h'⟩ | h
 ·have HB := Lib.hid (digitB_false c (by omega))
  go_enter Tryz.func170, Tryz.ntmps170
  go_wp2
  go_ret
  exact ⟨by rw [HB.out]; first | rfl | (simp; omega), rfl⟩
 ·have HB := Lib.hid (digitB_true c (by omega))
  go_enter Tryz.func170, Tryz.ntmps170
  go_wp2
  go_ret
  exact ⟨by rw [HB.out]; first | rfl | (simp; omega), rfl⟩
 ·have HB := Lib.hid (digitB_false c (by omega))
  go_enter Tryz.func170, Tryz.ntmps170
  go_wp2
  go_ret
  exact ⟨by rw [HB.out]; first | rfl | (simp; omega), rfl⟩
theorem word1_any (c : UInt8) (w : World) : Calls Tryz.prog 234 #[.int .u8 c.toNat] w fun e w' => e = .returned (.bool (tokB c)) ∧ w = w' := by
 have HL := Lib.hid (show tokB c = (letterB c || digitB c) from rfl)
 cases hl : letterB c
 ·have hl' := (fun w => letter_any c w)
  rw [hl] at hl'
  have H := Lib.hid hl'
  clear hl'
  rw [hl] at HL
  have hd := (fun w => digit_any c w)
  generalize digitB c = d at *
  have HD := Lib.hid hd
  have HH := Lib.hid hl
  clear hd hl
  go_enter Tryz.func234, Tryz.ntmps234
  go_wp2_with fail
  refine Calls.mono (H.out _) ?_
  rintro e w' ⟨rfl, rfl⟩
  go_wp2_with fail
  refine Calls.mono (HD.out _) ?_
  rintro e w' ⟨rfl, rfl⟩
  go_wp2_with fail
  go_ret
  exact ⟨by rw [HL.out]; rfl, rfl⟩
 ·have hl' := (fun w => letter_any c w)
  rw [hl] at hl'
  have H := Lib.hid hl'
  clear hl'
  rw [hl] at HL
  have HH := Lib.hid hl
  clear hl
  go_enter Tryz.func234, Tryz.ntmps234
  go_wp2_with fail
  refine Calls.mono (H.out _) ?_
  rintro e w' ⟨rfl, rfl⟩
  go_wp2_with fail
  go_ret
  exact ⟨by rw [HL.out]; rfl, rfl⟩
def nextB (s : ByteArray) (i : Nat) : UInt8 := (bs s)[i]?.getD 0
theorem nextB_in (s : ByteArray) (i : Nat) (h : i < s.size) : nextB s i = s[i] := by simp [nextB, bs_get s i h]
theorem nextB_out (s : ByteArray) (i : Nat) (h : s.size ≤ i) : nextB s i = 0 := by
 unfold nextB
 rw [List.getElem?_eq_none (by rw [bs_len]; exact h)]
 rfl
theorem next_any (g : Nat) (s : ByteArray) (i : Nat) (w : World) (h0 : w.cell? ⟨g, 0, none⟩ = some (.string s)) (h1 : w.cell? ⟨g, 1, none⟩ = some (.int .i64 i)) (hs : s.size ≤ maxLen) :
  Calls Tryz.prog 164 #[.pointer (some ⟨g, 0, none⟩)] w fun e w' => e = .returned (bv (nextB s i)) ∧ ∃ n, w' = w.drewN n := by
 unfold maxLen at hs
 by_cases h : i < s.size
 ·have HN := Lib.hid (nextB_in s i h)
  have i0 : (0 : Int) ≤ i := by omega
  have i1 : (i : Int) < s.size := by omega
  have i2 : decide ((s.size : Int) ≤ (i : Int)) = false := by simp; omega
  go_enter Tryz.func164, Tryz.ntmps164
  go_wp2_with fail
  go_quiet (fail)
  go_wp2_with fail
  go_quiet (fail)
  go_wp2_with fail
  go_ret
  exact ⟨by rw [HN.out]; rfl, ⟨_, World.drewN_drewN ..⟩⟩
 ·have HN := Lib.hid (nextB_out s i (by omega))
  have i1 : (s.size : Int) ≤ i := by omega
  have i2 : decide ((s.size : Int) ≤ (i : Int)) = true := by simp; omega
  go_enter Tryz.func164, Tryz.ntmps164
  go_wp2_with fail
  go_quiet (fail)
  go_wp2_with fail
  go_ret
  exact ⟨by rw [HN.out]; rfl, ⟨_, rfl⟩⟩
end
section
open Go.RowKit
def markB (c : UInt8) : Bool := c.toNat == 123 || c.toNat == 125 || c.toNat == 40 || c.toNat == 41 || c.toNat == 91 || c.toNat == 93 || c.toNat == 59 || c.toNat == 44
theorem digitByte_any (c : UInt8) (w : World) : Calls Tryz.prog 184 #[.int .u8 c.toNat] w fun e w' => e = .returned (.bool (digitB c)) ∧ w = w' := by
 have hu : (c.toNat : Int) < 256 := by have := c.toNat_lt; omega
 have HL := Lib.hid (show digitB c = (decide (48 ≤ (c.toNat : Int)) && decide ((c.toNat : Int) ≤ 57)) by unfold digitB; rw [Bool.eq_iff_iff]; simp; omega)
 go_enter Tryz.func184, Tryz.ntmps184
 go_wp2_with (go_at_call 98; refine (In_any _ _ _ _).mono ?_; rintro e w' ⟨rfl, rfl⟩)
 go_ret
 exact ⟨by rw [HL.out]; rfl, rfl⟩
theorem letterByte_any (c : UInt8) (w : World) : Calls Tryz.prog 182 #[.int .u8 c.toNat] w fun e w' => e = .returned (.bool (letterB c)) ∧ w = w' := by
 have hu : (c.toNat : Int) < 256 := by have := c.toNat_lt; omega
 have hc : (c.toNat : Int) < 65 ∨ (65 ≤ (c.toNat : Int) ∧ (c.toNat : Int) ≤ 90) ∨ (91 ≤ (c.toNat : Int) ∧ (c.toNat : Int) < 95) ∨ (c.toNat : Int) = 95 ∨ (c.toNat : Int) = 96 ∨ (97 ≤ (c.toNat : Int) ∧ (c.toNat : Int) ≤ 122) ∨ 122 < (c.toNat : Int) := by omega
 have hne : (c.toNat : Int) = 95 ∨ ((c.toNat : Int) == 95) = false := ne_or c 95
 have hcase : ((c.toNat : Int) < 65 ∧ ((c.toNat : Int) == 95) = false) ∨ (65 ≤ (c.toNat : Int) ∧ (c.toNat : Int) ≤ 90) ∨ (91 ≤ (c.toNat : Int) ∧ (c.toNat : Int) ≤ 96 ∧ ((c.toNat : Int) == 95) = false) ∨ (c.toNat : Int) = 95 ∨ (97 ≤ (c.toNat : Int) ∧ (c.toNat : Int) ≤ 122) ∨ (122 < (c.toNat : Int) ∧ ((c.toNat : Int) == 95) = false) := by
  rcases hne with h | h
  ·exact .inr (.inr (.inr (.inl h)))
  ·have h' : (c.toNat : Int) ≠ 95 := by simpa using h
   by_cases h1 : (c.toNat : Int) < 65
   ·exact .inl ⟨h1, h⟩
   ·by_cases h2 : (c.toNat : Int) ≤ 90
    ·exact .inr (.inl ⟨by omega, h2⟩)
    ·by_cases h3 : (c.toNat : Int) ≤ 96
     ·exact .inr (.inr (.inl ⟨by omega, h3, h⟩))
     ·by_cases h4 : (c.toNat : Int) ≤ 122
      ·exact .inr (.inr (.inr (.inr (.inl ⟨by omega, h4⟩))))
      ·exact .inr (.inr (.inr (.inr (.inr ⟨by omega, h⟩))))
 clear hne hc
 rcases hcase with ⟨h, h'⟩ | ⟨h, h'⟩ | ⟨h, h', h''⟩ | h | ⟨h, h'⟩ | ⟨h, h'⟩
 ·have HB := Lib.hid (letterB_false c (by omega))
  go_enter Tryz.func182, Tryz.ntmps182
  go_wp2_with (go_at_call 98; first | (refine (In_yes _ _ _ _ ?_ ?_).mono ?_; omega; omega; rintro e w' ⟨rfl, rfl⟩) | (refine (In_no _ _ _ _ ?_).mono ?_; omega; rintro e w' ⟨rfl, rfl⟩))
  go_ret
  exact ⟨by rw [HB.out]; first | rfl | (simp; omega), rfl⟩
 ·have HB := Lib.hid (letterB_true c (by omega))
  go_enter Tryz.func182, Tryz.ntmps182
  go_wp2_with (go_at_call 98; first | (refine (In_yes _ _ _ _ ?_ ?_).mono ?_; omega; omega; rintro e w' ⟨rfl, rfl⟩) | (refine (In_no _ _ _ _ ?_).mono ?_; omega; rintro e w' ⟨rfl, rfl⟩))
  go_ret
  exact ⟨by rw [HB.out]; first | rfl | (simp; omega), rfl⟩
 ·have hn : (c.toNat : Int) ≠ 95 := by simpa using h''
  have HB := Lib.hid (letterB_false c (by omega))
  clear hn
  go_enter Tryz.func182, Tryz.ntmps182
  go_wp2_with (go_at_call 98; first | (refine (In_yes _ _ _ _ ?_ ?_).mono ?_; omega; omega; rintro e w' ⟨rfl, rfl⟩) | (refine (In_no _ _ _ _ ?_).mono ?_; omega; rintro e w' ⟨rfl, rfl⟩))
  go_ret
  exact ⟨by rw [HB.out]; first | rfl | (simp; omega), rfl⟩
 ·have HB := Lib.hid (letterB_true c (by omega))
  go_enter Tryz.func182, Tryz.ntmps182
  go_wp2_with (go_at_call 98; first | (refine (In_yes _ _ _ _ ?_ ?_).mono ?_; omega; omega; rintro e w' ⟨rfl, rfl⟩) | (refine (In_no _ _ _ _ ?_).mono ?_; omega; rintro e w' ⟨rfl, rfl⟩))
  go_ret
  exact ⟨by rw [HB.out]; first | rfl | (simp; omega), rfl⟩
 ·have HB := Lib.hid (letterB_true c (by omega))
  go_enter Tryz.func182, Tryz.ntmps182
  go_wp2_with (go_at_call 98; first | (refine (In_yes _ _ _ _ ?_ ?_).mono ?_; omega; omega; rintro e w' ⟨rfl, rfl⟩) | (refine (In_no _ _ _ _ ?_).mono ?_; omega; rintro e w' ⟨rfl, rfl⟩))
  go_ret
  exact ⟨by rw [HB.out]; first | rfl | (simp; omega), rfl⟩
 ·have HB := Lib.hid (letterB_false c (by omega))
  go_enter Tryz.func182, Tryz.ntmps182
  go_wp2_with (go_at_call 98; first | (refine (In_yes _ _ _ _ ?_ ?_).mono ?_; omega; omega; rintro e w' ⟨rfl, rfl⟩) | (refine (In_no _ _ _ _ ?_).mono ?_; omega; rintro e w' ⟨rfl, rfl⟩))
  go_ret
  exact ⟨by rw [HB.out]; first | rfl | (simp; omega), rfl⟩
theorem markByte_any (c : UInt8) (w : World) : Calls Tryz.prog 187 #[.int .u8 c.toNat] w fun e w' => e = .returned (.bool (markB c)) ∧ w = w' := by
 have HL := Lib.hid (show markB c = (((c.toNat : Int) == 123) || ((c.toNat : Int) == 125) || ((c.toNat : Int) == 40) || ((c.toNat : Int) == 41) || ((c.toNat : Int) == 91) || ((c.toNat : Int) == 93) || ((c.toNat : Int) == 59) || ((c.toNat : Int) == 44)) by
  unfold markB; rw [Bool.eq_iff_iff]; simp; omega)
 have hc : ∀ n : Int, ((c.toNat : Int) = n) ∨ ((c.toNat : Int) == n) = false := fun n => by
  by_cases h : (c.toNat : Int) = n
  ·exact .inl h
  ·exact .inr (by simpa using h)
 have HC := Lib.hid hc
 clear hc
 rcases HC.out 123 with h1 | h1
 ·go_enter Tryz.func187, Tryz.ntmps187
  go_wp2
  go_ret
  exact ⟨by rw [HL.out]; simp [h1], rfl⟩
 rcases HC.out 125 with h2 | h2
 ·go_enter Tryz.func187, Tryz.ntmps187
  go_wp2
  go_ret
  exact ⟨by rw [HL.out]; simp [h2], rfl⟩
 rcases HC.out 40 with h3 | h3
 ·go_enter Tryz.func187, Tryz.ntmps187
  go_wp2
  go_ret
  exact ⟨by rw [HL.out]; simp [h3], rfl⟩
 rcases HC.out 41 with h4 | h4
 ·go_enter Tryz.func187, Tryz.ntmps187
  go_wp2
  go_ret
  exact ⟨by rw [HL.out]; simp [h4], rfl⟩
 rcases HC.out 91 with h5 | h5
 ·go_enter Tryz.func187, Tryz.ntmps187
  go_wp2
  go_ret
  exact ⟨by rw [HL.out]; simp [h5], rfl⟩
 rcases HC.out 93 with h6 | h6
 ·go_enter Tryz.func187, Tryz.ntmps187
  go_wp2
  go_ret
  exact ⟨by rw [HL.out]; simp [h6], rfl⟩
 rcases HC.out 59 with h7 | h7
 ·go_enter Tryz.func187, Tryz.ntmps187
  go_wp2
  go_ret
  exact ⟨by rw [HL.out]; simp [h7], rfl⟩
 rcases HC.out 44 with h8 | h8
 ·go_enter Tryz.func187, Tryz.ntmps187
  go_wp2
  go_ret
  exact ⟨by rw [HL.out]; simp [h8], rfl⟩
 ·go_enter Tryz.func187, Tryz.ntmps187
  go_wp2
  go_ret
  exact ⟨by rw [HL.out]; simp only [h1, h2, h3, h4, h5, h6, h7, h8]; rfl, rfl⟩
end
section
open Go.RowKit
structure Only (g : Nat) (w w' : World) : Prop where
 by_ : w.grownBy w' (some g)
 size : w'.heap.size = w.heap.size
theorem Only.refl (g : Nat) (w : World) : Only g w w := ⟨World.grownBy.refl w _, rfl⟩
theorem Only.drewN {g : Nat} {a w : World} (h : Only g a w) (n : Nat) : Only g a (w.drewN n) := ⟨⟨h.by_.os, h.by_.tape, h.by_.output, h.by_.size, h.by_.block⟩, h.size⟩
theorem Only.setCell {g : Nat} {a w : World} (h : Only g a w) {p : Addr} (hp : p.block = g) (v : Value) : Only g a (w.setCell p v) :=
 ⟨⟨h.by_.os, h.by_.tape, h.by_.output, by simpa [World.setCell] using h.by_.size, fun i hi hne => (Below.heap_setCell w p v i (by rintro rfl; exact hne (by rw [hp]))).trans (h.by_.block i hi hne)⟩, by simpa using h.size⟩
theorem Only.below {g B : Nat} {w w' : World} (h : Only g w w') (hB : B ≤ g) (hg : B ≤ w.heap.size) : Below B w w' :=
 ⟨h.by_.os, h.by_.tape, h.by_.output, h.by_.size, fun k hk => h.by_.block k (by omega) (by simp; omega)⟩
def runN (p : UInt8 → Bool) (s : ByteArray) (i : Nat) : Nat := (((bs s).drop i).takeWhile p).length
theorem runN_le (p : UInt8 → Bool) (s : ByteArray) (i : Nat) : i ≤ s.size → i + runN p s i ≤ s.size := by
 intro h
 unfold runN
 have := (List.takeWhile_prefix p (l := (bs s).drop i)).length_le
 rw [List.length_drop, bs_len] at this
 omega
theorem runN_hit (p : UInt8 → Bool) (s : ByteArray) (i : Nat) (h : i < s.size) (hp : p s[i] = true) : runN p s i = runN p s (i + 1) + 1 := by
 have e : (bs s).drop i = s[i] :: (bs s).drop (i + 1) := by
  rw [List.drop_eq_getElem_cons (by rw [bs_len]; exact h)]
  congr 1
 unfold runN
 rw [e, List.takeWhile_cons, if_pos hp]
 rfl
theorem runN_miss (p : UInt8 → Bool) (s : ByteArray) (i : Nat) (h : i < s.size) (hp : p s[i] = false) : runN p s i = 0 := by
 have e : (bs s).drop i = s[i] :: (bs s).drop (i + 1) := by
  rw [List.drop_eq_getElem_cons (by rw [bs_len]; exact h)]
  congr 1
 unfold runN
 rw [e, List.takeWhile_cons, if_neg (by rw [hp]; decide)]
 rfl
theorem runN_end (p : UInt8 → Bool) (s : ByteArray) : runN p s s.size = 0 := by
 unfold runN
 rw [List.drop_eq_nil_of_le (by rw [bs_len]; exact Nat.le_refl _)]
 rfl
theorem span_word (g : Nat) (s : ByteArray) (i : Nat) (w : World) (h0 : w.cell? ⟨g, 0, none⟩ = some (.string s)) (h1 : w.cell? ⟨g, 1, none⟩ = some (.int .i64 i)) (hz : w.frozen? ⟨g, 1, none⟩ = false) (hs : s.size ≤ maxLen) (hi : i ≤ s.size) :
  Calls Tryz.prog 162 #[.pointer (some ⟨g, 0, none⟩), .func (.func 234) #[] #[]] w fun e w' =>
   e = .returned (.string (s.extract i (i + runN tokB s i))) ∧ Only g w w' ∧ w'.cell? ⟨g, 0, none⟩ = some (.string s) ∧ w'.cell? ⟨g, 1, none⟩ = some (.int .i64 (i + runN tokB s i : Nat)) ∧ w'.frozen? ⟨g, 1, none⟩ = false := by
 unfold maxLen at hs
 have HR := Lib.hid (runN_le tokB s i hi)
 go_enter Tryz.func162, Tryz.ntmps162
 go_wp2_with fail
 go_loopg [10] (s.size - i) (fun gk x wr => ∃ j : Nat, gk = s.size - j ∧ i ≤ j ∧ j ≤ s.size ∧ i + runN tokB s i = j + runN tokB s j ∧ Only g w wr ∧ wr.cell? ⟨g, 0, none⟩ = some (.string s) ∧ wr.cell? ⟨g, 1, none⟩ = some (.int .i64 j) ∧ wr.frozen? ⟨g, 1, none⟩ = false)
 case atStart => exact ⟨i, rfl, Nat.le_refl _, hi, rfl, Only.refl _ _, h0, h1, hz⟩
 case round =>
  obtain ⟨j, hgk, hij, hj, hn, ho, c0, c1, cz⟩ := hrel
  have HN := Lib.hid hn
  have HG := Lib.hid hgk
  clear hn hgk
  by_cases hlt : j < s.size
  ·have i0 : (0 : Int) ≤ (j : Int) := by omega
   have i1 : (j : Int) < s.size := by omega
   have i2 : decide ((j : Int) < (s.size : Int)) = true := by simp; omega
   cases hp : tokB s[j]
   ·have HP := Lib.hid hp
    have hc := fun wx => word1_any s[j] wx
    rw [hp] at hc
    have HC := Lib.hid hc
    clear hc hp
    have HE := Lib.hid (show i + runN tokB s i = j by rw [HN.out, runN_miss tokB s j hlt HP.out]; rfl)
    go_wp2_with fail
    go_quiet ((go_at_call 234; exact Calls.quiet_of_same (Calls.mono (HC.out _) (fun _ _ ⟨h1, h2⟩ => ⟨h1, h2.symm⟩))))
    go_wp2_with fail
    go_quiet (fail)
    go_wp2_with fail
    go_ret
    rw [HE.out]
    exact ⟨rfl, (ho.drewN _).drewN _, c0, c1, cz⟩
   ·have HP := Lib.hid hp
    have hc := fun wx => word1_any s[j] wx
    rw [hp] at hc
    have HC := Lib.hid hc
    clear hc hp
    go_wp2_with fail
    go_quiet ((go_at_call 234; exact Calls.quiet_of_same (Calls.mono (HC.out _) (fun _ _ ⟨h1, h2⟩ => ⟨h1, h2.symm⟩))))
    go_wp2_with fail
    go_roundg (s.size - (j + 1))
    case measure => rw [HG.out]; omega
    case rel =>
     refine ⟨j + 1, rfl, by omega, by omega, by rw [HN.out, runN_hit tokB s j hlt HP.out]; omega, ?_, ?_, ?_, ?_⟩
     ·exact (ho.drewN _).setCell rfl _
     ·exact (World.cell?_setCell_other _ _ _ _ (by intro h; injection h with _ h2; cases h2)).trans c0
     ·exact World.cell?_setCell_same _ _ _ c1
     ·exact (World.frozen?_setCell _ _ _ _).trans cz
  ·have i1 : (s.size : Int) ≤ j := by omega
   have i2 : decide ((j : Int) < (s.size : Int)) = false := by simp; omega
   have hjs : j = s.size := by omega
   have i3 : (j : Int) ≤ s.size := by omega
   have HE := Lib.hid (show i + runN tokB s i = j by rw [HN.out, hjs, runN_end]; rfl)
   clear hjs
   go_wp2_with fail
   go_quiet (fail)
   go_wp2_with fail
   go_quiet (fail)
   go_wp2_with fail
   go_ret
   rw [HE.out]
   exact ⟨rfl, (ho.drewN _).drewN _, c0, c1, cz⟩
theorem word_any (g : Nat) (s : ByteArray) (i : Nat) (w : World) (h0 : w.cell? ⟨g, 0, none⟩ = some (.string s)) (h1 : w.cell? ⟨g, 1, none⟩ = some (.int .i64 i)) (hz : w.frozen? ⟨g, 1, none⟩ = false) (hs : s.size ≤ maxLen) (hi : i ≤ s.size) :
  Calls Tryz.prog 169 #[.pointer (some ⟨g, 0, none⟩)] w fun e w' =>
   e = .returned (.string (s.extract i (i + runN tokB s i))) ∧ Only g w w' ∧ w'.cell? ⟨g, 0, none⟩ = some (.string s) ∧ w'.cell? ⟨g, 1, none⟩ = some (.int .i64 (i + runN tokB s i : Nat)) ∧ w'.frozen? ⟨g, 1, none⟩ = false := by
 have HW := Lib.hid (fun w1 (e : w = w1) => show Calls Tryz.prog _ _ w1 _ from e ▸ span_word g s i w h0 h1 hz hs hi)
 clear h0 h1 hz
 go_enter Tryz.func169, Tryz.ntmps169
 go_wp2_with fail
 refine Calls.mono (HW.out w rfl) ?_
 rintro e w1 ⟨rfl, k1, k2, k3, k4⟩
 have HK := Lib.hid (And.intro k1 (And.intro k2 (And.intro k3 k4)))
 clear k1 k2 k3 k4
 go_wp2_with fail
 go_ret
 exact ⟨rfl, HK.out⟩
end
section
open Go.RowKit
theorem wordEnd_any (s : ByteArray) (i : Nat) (w : World) (hs : s.size ≤ maxLen) (hi : i ≤ s.size) :
  Calls Tryz.prog 183 #[.string s, .int .i64 i] w fun e w' => e = .returned (.int .i64 (i + runN tokB s i : Nat)) ∧ w = w' := by
 unfold maxLen at hs
 go_enter Tryz.func183, Tryz.ntmps183
 go_wp2_with fail
 go_loopw [1] (fun x wr => ∃ j : Nat, i ≤ j ∧ j ≤ s.size ∧ i + runN tokB s i = j + runN tokB s j ∧ x = .int .i64 j ∧ w = wr) (fun x _ => s.size - (intOf x).toNat)
 case atStart => exact ⟨i, Nat.le_refl _, hi, rfl, rfl, rfl⟩
 case round =>
  obtain ⟨j, hij, hj, hn, rfl, rfl⟩ := hrel
  have HN := Lib.hid hn
  clear hn
  by_cases hlt : j < s.size
  ·have i0 : (0 : Int) ≤ (j : Int) := by omega
   have i1 : (j : Int) < s.size := by omega
   have i2 : decide ((j : Int) < (s.size : Int)) = true := by simp; omega
   cases hl : letterB s[j]
   ·cases hd : digitB s[j]
    ·have HP := Lib.hid (show tokB s[j] = false by unfold tokB; rw [hl, hd]; rfl)
     have hc := fun wx => letterByte_any s[j] wx
     have hc2 := fun wx => digitByte_any s[j] wx
     rw [hl] at hc
     rw [hd] at hc2
     have HC := Lib.hid hc
     have HD := Lib.hid hc2
     clear hc hc2 hl hd
     have HE := Lib.hid (show i + runN tokB s i = j by rw [HN.out, runN_miss tokB s j hlt HP.out]; rfl)
     go_wp2_with (first | (go_at_call 182; refine (HC.out _).mono ?_; rintro e w' ⟨rfl, rfl⟩) | (go_at_call 184; refine (HD.out _).mono ?_; rintro e w' ⟨rfl, rfl⟩))
     go_ret
     rw [HE.out]
     exact ⟨rfl, rfl⟩
    ·have HP := Lib.hid (show tokB s[j] = true by unfold tokB; rw [hl, hd]; rfl)
     have hc := fun wx => letterByte_any s[j] wx
     have hc2 := fun wx => digitByte_any s[j] wx
     rw [hl] at hc
     rw [hd] at hc2
     have HC := Lib.hid hc
     have HD := Lib.hid hc2
     clear hc hc2 hl hd
     go_wp2_with (first | (go_at_call 182; refine (HC.out _).mono ?_; rintro e w' ⟨rfl, rfl⟩) | (go_at_call 184; refine (HD.out _).mono ?_; rintro e w' ⟨rfl, rfl⟩))
     go_roundw
     case measure => simp [intOf]; omega
     case rel => exact ⟨j + 1, by omega, by omega, by rw [HN.out, runN_hit tokB s j hlt HP.out]; omega, by first | rfl | go_num, by first | rfl | trivial⟩
   ·have HP := Lib.hid (show tokB s[j] = true by unfold tokB; rw [hl]; rfl)
    have hc := fun wx => letterByte_any s[j] wx
    rw [hl] at hc
    have HC := Lib.hid hc
    clear hc hl
    go_wp2_with (go_at_call 182; refine (HC.out _).mono ?_; rintro e w' ⟨rfl, rfl⟩)
    go_roundw
    case measure => simp [intOf]; omega
    case rel => exact ⟨j + 1, by omega, by omega, by rw [HN.out, runN_hit tokB s j hlt HP.out]; omega, by first | rfl | go_num, by first | rfl | trivial⟩
  ·have i1 : (s.size : Int) ≤ j := by omega
   have i2 : decide ((j : Int) < (s.size : Int)) = false := by simp; omega
   have hjs : j = s.size := by omega
   have HE := Lib.hid (show i + runN tokB s i = j by rw [HN.out, hjs, runN_end]; rfl)
   clear hjs
   go_wp2_with fail
   go_ret
   rw [HE.out]
   exact ⟨rfl, rfl⟩
end
section
open Go.RowKit
def faultOf (k : Int) (t : ByteArray) (n : Int) : Int :=
 if k < 1 ∨ 5 < k then 2
 else if k = 3 then (if n < 0 ∨ 2147483647 < n then 6 else if 0 < t.size then 3 else 0)
 else if n ≠ 0 then 3
 else if k = 5 then (if h : t.size = 1 then (if markB t[0] then 0 else 3) else 3)
 else if k = 4 then 0
 else (if h : 0 < t.size then (if letterB t[0] ∧ runN tokB t 0 = t.size then 0 else 3) else 3)
theorem fault_word (k : Int) (t : ByteArray) (h : k = 1 ∨ k = 2) (hz : 0 < t.size) : faultOf k t 0 = if letterB t[0] ∧ runN tokB t 0 = t.size then 0 else 3 := by
 unfold faultOf
 rw [if_neg (by omega), if_neg (by omega), if_neg (by omega), if_neg (by omega), if_neg (by omega), dif_pos hz]
def FaultIs (k : Int) (t : ByteArray) (n : Int) (w : World) (e : Ending) (w' : World) : Prop := e = .returned (.int .i64 (faultOf k t n)) ∧ Below w.heap.size w w'
theorem tokenFault_any (k : Int) (t : ByteArray) (n : Int) (w : World) (hs : t.size ≤ maxLen) :
  Calls Tryz.prog 110 #[.agg #[.int .i64 k, .string t, .int .i64 n]] w (FaultIs k t n w) := by
 have hs' := hs
 unfold maxLen at hs'
 by_cases hin : k < 1 ∨ 5 < k
 ·have HF := Lib.hid (show faultOf k t n = 2 by unfold faultOf; rw [if_pos hin])
  go_enter Tryz.func110, Tryz.ntmps110
  go_wp2_with (go_at_call 98; refine (In_no _ _ _ _ (by omega)).mono ?_; rintro e w' ⟨rfl, rfl⟩)
  go_ret
  refine ⟨by rw [HF.out]; rfl, ?_⟩
  (repeat (first | with_reducible exact Below.refl _ _ | with_reducible refine Below.setCell ?_ ?_ _ | with_reducible refine Below.alloc ?_ ?_ _ | with_reducible refine Below.drew ?_ | with_reducible refine below_drewN ?_ _))
  all_goals (first | omega | (simp; done) | (simp; omega) | (dsimp only [World.drew] at *; omega))
 by_cases h3 : k = 3
 ·subst h3
  by_cases hn : n < 0 ∨ 2147483647 < n
  ·have HF := Lib.hid (show faultOf 3 t n = 6 by unfold faultOf; rw [if_neg hin, if_pos rfl, if_pos hn])
   go_enter Tryz.func110, Tryz.ntmps110
   go_wp2_with (first | (go_at_call 98; refine (In_no _ _ _ _ (by omega)).mono ?_; rintro e w' ⟨rfl, rfl⟩) | (go_at_call 98; refine (In_yes _ _ _ _ (by omega) (by omega)).mono ?_; rintro e w' ⟨rfl, rfl⟩))
   go_ret
   refine ⟨by rw [HF.out]; rfl, ?_⟩
   (repeat (first | with_reducible exact Below.refl _ _ | with_reducible refine Below.setCell ?_ ?_ _ | with_reducible refine Below.alloc ?_ ?_ _ | with_reducible refine Below.drew ?_ | with_reducible refine below_drewN ?_ _))
   all_goals (first | omega | (simp; done) | (simp; omega) | (dsimp only [World.drew] at *; omega))
  by_cases hz : 0 < t.size
  ·have HF := Lib.hid (show faultOf 3 t n = 3 by unfold faultOf; rw [if_neg hin, if_pos rfl, if_neg hn, if_pos hz])
   have i1 : (0 : Int) < t.size := by omega
   go_enter Tryz.func110, Tryz.ntmps110
   go_wp2_with (first | (go_at_call 98; refine (In_yes _ _ _ _ (by omega) (by omega)).mono ?_; rintro e w' ⟨rfl, rfl⟩))
   go_ret
   refine ⟨by rw [HF.out]; rfl, ?_⟩
   (repeat (first | with_reducible exact Below.refl _ _ | with_reducible refine Below.setCell ?_ ?_ _ | with_reducible refine Below.alloc ?_ ?_ _ | with_reducible refine Below.drew ?_ | with_reducible refine below_drewN ?_ _))
   all_goals (first | omega | (simp; done) | (simp; omega) | (dsimp only [World.drew] at *; omega))
  ·have HF := Lib.hid (show faultOf 3 t n = 0 by unfold faultOf; rw [if_neg hin, if_pos rfl, if_neg hn, if_neg hz])
   have i1 : ((t.size : Nat) : Int) = 0 := by omega
   go_enter Tryz.func110, Tryz.ntmps110
   go_wp2_with (first | (go_at_call 98; refine (In_yes _ _ _ _ (by omega) (by omega)).mono ?_; rintro e w' ⟨rfl, rfl⟩))
   go_ret
   refine ⟨by rw [HF.out]; rfl, ?_⟩
   (repeat (first | with_reducible exact Below.refl _ _ | with_reducible refine Below.setCell ?_ ?_ _ | with_reducible refine Below.alloc ?_ ?_ _ | with_reducible refine Below.drew ?_ | with_reducible refine below_drewN ?_ _))
   all_goals (first | omega | (simp; done) | (simp; omega) | (dsimp only [World.drew] at *; omega))
 by_cases h5 : k = 5
 ·subst h5
  by_cases hn : n = 0
  ·subst hn
   by_cases hz : t.size = 1
   ·have i1 : ((t.size : Nat) : Int) = 1 := by omega
    have i2 : (0 : Int) < t.size := by omega
    cases hm : markB (t[0]'(by omega))
    ·have HF := Lib.hid (show faultOf 5 t 0 = 3 by unfold faultOf; rw [if_neg hin, if_neg h3, if_neg (by omega), if_pos rfl, dif_pos hz, hm]; rfl)
     have hc := fun wx => markByte_any (t[0]'(by omega)) wx
     rw [hm] at hc
     have HC := Lib.hid hc
     clear hc hm
     go_enter Tryz.func110, Tryz.ntmps110
     go_wp2_with (first | (go_at_call 98; refine (In_yes _ _ _ _ (by omega) (by omega)).mono ?_; rintro e w' ⟨rfl, rfl⟩) | (go_at_call 187; refine (HC.out _).mono ?_; rintro e w' ⟨rfl, rfl⟩))
     go_ret
     refine ⟨by rw [HF.out]; rfl, ?_⟩
     (repeat (first | with_reducible exact Below.refl _ _ | with_reducible refine Below.setCell ?_ ?_ _ | with_reducible refine Below.alloc ?_ ?_ _ | with_reducible refine Below.drew ?_ | with_reducible refine below_drewN ?_ _))
     all_goals (first | omega | (simp; done) | (simp; omega) | (dsimp only [World.drew] at *; omega))
    ·have HF := Lib.hid (show faultOf 5 t 0 = 0 by unfold faultOf; rw [if_neg hin, if_neg h3, if_neg (by omega), if_pos rfl, dif_pos hz, hm]; rfl)
     have hc := fun wx => markByte_any (t[0]'(by omega)) wx
     rw [hm] at hc
     have HC := Lib.hid hc
     clear hc hm
     go_enter Tryz.func110, Tryz.ntmps110
     go_wp2_with (first | (go_at_call 98; refine (In_yes _ _ _ _ (by omega) (by omega)).mono ?_; rintro e w' ⟨rfl, rfl⟩) | (go_at_call 187; refine (HC.out _).mono ?_; rintro e w' ⟨rfl, rfl⟩))
     go_ret
     refine ⟨by rw [HF.out]; rfl, ?_⟩
     (repeat (first | with_reducible exact Below.refl _ _ | with_reducible refine Below.setCell ?_ ?_ _ | with_reducible refine Below.alloc ?_ ?_ _ | with_reducible refine Below.drew ?_ | with_reducible refine below_drewN ?_ _))
     all_goals (first | omega | (simp; done) | (simp; omega) | (dsimp only [World.drew] at *; omega))
   ·have i1 : (((t.size : Nat) : Int) == 1) = false := beq_false_of_ne (by omega)
    have HF := Lib.hid (show faultOf 5 t 0 = 3 by unfold faultOf; rw [if_neg hin, if_neg h3, if_neg (by omega), if_pos rfl, dif_neg hz])
    clear hz
    go_enter Tryz.func110, Tryz.ntmps110
    go_wp2_with (first | (go_at_call 98; refine (In_yes _ _ _ _ (by omega) (by omega)).mono ?_; rintro e w' ⟨rfl, rfl⟩))
    go_ret
    refine ⟨by rw [HF.out]; rfl, ?_⟩
    (repeat (first | with_reducible exact Below.refl _ _ | with_reducible refine Below.setCell ?_ ?_ _ | with_reducible refine Below.alloc ?_ ?_ _ | with_reducible refine Below.drew ?_ | with_reducible refine below_drewN ?_ _))
    all_goals (first | omega | (simp; done) | (simp; omega) | (dsimp only [World.drew] at *; omega))
  ·have i1 : (n == 0) = false := by simpa using hn
   have HF := Lib.hid (show faultOf 5 t n = 3 by unfold faultOf; rw [if_neg hin, if_neg h3, if_pos hn])
   clear hn
   go_enter Tryz.func110, Tryz.ntmps110
   go_wp2_with (first | (go_at_call 98; refine (In_yes _ _ _ _ (by omega) (by omega)).mono ?_; rintro e w' ⟨rfl, rfl⟩))
   go_ret
   refine ⟨by rw [HF.out]; rfl, ?_⟩
   (repeat (first | with_reducible exact Below.refl _ _ | with_reducible refine Below.setCell ?_ ?_ _ | with_reducible refine Below.alloc ?_ ?_ _ | with_reducible refine Below.drew ?_ | with_reducible refine below_drewN ?_ _))
   all_goals (first | omega | (simp; done) | (simp; omega) | (dsimp only [World.drew] at *; omega))
 by_cases h4 : k = 4
 ·subst h4
  by_cases hn : n = 0
  ·subst hn
   have HF := Lib.hid (show faultOf 4 t 0 = 0 by unfold faultOf; rw [if_neg hin, if_neg h3, if_neg (by omega), if_neg h5, if_pos rfl])
   go_enter Tryz.func110, Tryz.ntmps110
   go_wp2_with (first | (go_at_call 98; refine (In_yes _ _ _ _ (by omega) (by omega)).mono ?_; rintro e w' ⟨rfl, rfl⟩))
   go_ret
   refine ⟨by rw [HF.out]; rfl, ?_⟩
   (repeat (first | with_reducible exact Below.refl _ _ | with_reducible refine Below.setCell ?_ ?_ _ | with_reducible refine Below.alloc ?_ ?_ _ | with_reducible refine Below.drew ?_ | with_reducible refine below_drewN ?_ _))
   all_goals (first | omega | (simp; done) | (simp; omega) | (dsimp only [World.drew] at *; omega))
  ·have i1 : (n == 0) = false := by simpa using hn
   have HF := Lib.hid (show faultOf 4 t n = 3 by unfold faultOf; rw [if_neg hin, if_neg h3, if_pos hn])
   clear hn
   go_enter Tryz.func110, Tryz.ntmps110
   go_wp2_with (first | (go_at_call 98; refine (In_yes _ _ _ _ (by omega) (by omega)).mono ?_; rintro e w' ⟨rfl, rfl⟩))
   go_ret
   refine ⟨by rw [HF.out]; rfl, ?_⟩
   (repeat (first | with_reducible exact Below.refl _ _ | with_reducible refine Below.setCell ?_ ?_ _ | with_reducible refine Below.alloc ?_ ?_ _ | with_reducible refine Below.drew ?_ | with_reducible refine below_drewN ?_ _))
   all_goals (first | omega | (simp; done) | (simp; omega) | (dsimp only [World.drew] at *; omega))
 by_cases h1 : k = 1
 ·subst h1
  by_cases hn : n = 0
  ·subst hn
   by_cases hz : 0 < t.size
   ·have i2 : (0 : Int) < t.size := by omega
    cases hm : letterB (t[0]'hz)
    ·have HF := Lib.hid (show faultOf 1 t 0 = 3 by rw [fault_word 1 t (by omega) hz, hm]; rfl)
     have hc := fun wx => letterByte_any (t[0]'hz) wx
     rw [hm] at hc
     have HC := Lib.hid hc
     clear hc hm
     go_enter Tryz.func110, Tryz.ntmps110
     go_wp2_with (first | (go_at_call 98; refine (In_yes _ _ _ _ (by omega) (by omega)).mono ?_; rintro e w' ⟨rfl, rfl⟩))
     go_quiet (first | (go_at_call 182; exact Calls.quiet_of_same (Calls.mono (HC.out _) (fun _ _ ⟨h1, h2⟩ => ⟨h1, h2.symm⟩))))
     go_wp2_with fail
     go_ret
     refine ⟨by rw [HF.out]; rfl, ?_⟩
     (repeat (first | with_reducible exact Below.refl _ _ | with_reducible refine Below.setCell ?_ ?_ _ | with_reducible refine Below.alloc ?_ ?_ _ | with_reducible refine Below.drew ?_ | with_reducible refine below_drewN ?_ _))
     all_goals (first | omega | (simp; done) | (simp; omega) | (dsimp only [World.drew] at *; omega))
    ·have hc := fun wx => letterByte_any (t[0]'hz) wx
     have hd := fun wx => wordEnd_any t 0 wx hs (by omega)
     rw [hm] at hc
     have HC := Lib.hid hc
     clear hc
     by_cases hr : runN tokB t 0 = t.size
     ·have HF := Lib.hid (show faultOf 1 t 0 = 0 by rw [fault_word 1 t (by omega) hz, if_pos ⟨hm, hr⟩])
      rw [hr, Nat.zero_add] at hd
      have HD := Lib.hid hd
      clear hd hm hr
      go_enter Tryz.func110, Tryz.ntmps110
      go_wp2_with (first | (go_at_call 98; refine (In_yes _ _ _ _ (by omega) (by omega)).mono ?_; rintro e w' ⟨rfl, rfl⟩))
      go_quiet (first | (go_at_call 182; exact Calls.quiet_of_same (Calls.mono (HC.out _) (fun _ _ ⟨h1, h2⟩ => ⟨h1, h2.symm⟩))) | (go_at_call 183; exact Calls.quiet_of_same (Calls.mono (HD.out _) (fun _ _ ⟨h1, h2⟩ => ⟨h1, h2.symm⟩))))
      go_wp2_with fail
      go_ret
      refine ⟨by rw [HF.out]; rfl, ?_⟩
      (repeat (first | with_reducible exact Below.refl _ _ | with_reducible refine Below.setCell ?_ ?_ _ | with_reducible refine Below.alloc ?_ ?_ _ | with_reducible refine Below.drew ?_ | with_reducible refine below_drewN ?_ _))
      all_goals (first | omega | (simp; done) | (simp; omega) | (dsimp only [World.drew] at *; omega))
     ·have HF := Lib.hid (show faultOf 1 t 0 = 3 by rw [fault_word 1 t (by omega) hz, if_neg (fun h => hr h.2)])
      rw [Nat.zero_add] at hd
      obtain ⟨r, hr'⟩ : ∃ r : Nat, r = runN tokB t 0 := ⟨_, rfl⟩
      rw [← hr'] at hd hr
      have i3 : (((r : Nat) : Int) == t.size) = false := by simp; omega
      have HD := Lib.hid hd
      clear hd hm hr hr'
      go_enter Tryz.func110, Tryz.ntmps110
      go_wp2_with (first | (go_at_call 98; refine (In_yes _ _ _ _ (by omega) (by omega)).mono ?_; rintro e w' ⟨rfl, rfl⟩))
      go_quiet (first | (go_at_call 182; exact Calls.quiet_of_same (Calls.mono (HC.out _) (fun _ _ ⟨h1, h2⟩ => ⟨h1, h2.symm⟩))) | (go_at_call 183; exact Calls.quiet_of_same (Calls.mono (HD.out _) (fun _ _ ⟨h1, h2⟩ => ⟨h1, h2.symm⟩))))
      go_wp2_with fail
      go_ret
      refine ⟨by rw [HF.out]; rfl, ?_⟩
      (repeat (first | with_reducible exact Below.refl _ _ | with_reducible refine Below.setCell ?_ ?_ _ | with_reducible refine Below.alloc ?_ ?_ _ | with_reducible refine Below.drew ?_ | with_reducible refine below_drewN ?_ _))
      all_goals (first | omega | (simp; done) | (simp; omega) | (dsimp only [World.drew] at *; omega))
   ·have i1 : (t.size : Int) ≤ 0 := by omega
    have i4 : ((t.size : Nat) : Int) = 0 := by omega
    have HF := Lib.hid (show faultOf 1 t 0 = 3 by unfold faultOf; rw [if_neg hin, if_neg h3, if_neg (by omega), if_neg h5, if_neg h4, dif_neg hz])
    clear hz
    go_enter Tryz.func110, Tryz.ntmps110
    go_wp2_with (first | (go_at_call 98; refine (In_yes _ _ _ _ (by omega) (by omega)).mono ?_; rintro e w' ⟨rfl, rfl⟩))
    go_quiet (fail)
    go_wp2_with fail
    go_ret
    refine ⟨by rw [HF.out]; rfl, ?_⟩
    (repeat (first | with_reducible exact Below.refl _ _ | with_reducible refine Below.setCell ?_ ?_ _ | with_reducible refine Below.alloc ?_ ?_ _ | with_reducible refine Below.drew ?_ | with_reducible refine below_drewN ?_ _))
    all_goals (first | omega | (simp; done) | (simp; omega) | (dsimp only [World.drew] at *; omega))
  ·have i1 : (n == 0) = false := by simpa using hn
   have HF := Lib.hid (show faultOf 1 t n = 3 by unfold faultOf; rw [if_neg hin, if_neg h3, if_pos hn])
   clear hn
   go_enter Tryz.func110, Tryz.ntmps110
   go_wp2_with (first | (go_at_call 98; refine (In_yes _ _ _ _ (by omega) (by omega)).mono ?_; rintro e w' ⟨rfl, rfl⟩))
   go_quiet (fail)
   go_wp2_with fail
   go_ret
   refine ⟨by rw [HF.out]; rfl, ?_⟩
   (repeat (first | with_reducible exact Below.refl _ _ | with_reducible refine Below.setCell ?_ ?_ _ | with_reducible refine Below.alloc ?_ ?_ _ | with_reducible refine Below.drew ?_ | with_reducible refine below_drewN ?_ _))
   all_goals (first | omega | (simp; done) | (simp; omega) | (dsimp only [World.drew] at *; omega))
 by_cases h2 : k = 2
 ·subst h2
  by_cases hn : n = 0
  ·subst hn
   by_cases hz : 0 < t.size
   ·have i2 : (0 : Int) < t.size := by omega
    cases hm : letterB (t[0]'hz)
    ·have HF := Lib.hid (show faultOf 2 t 0 = 3 by rw [fault_word 2 t (by omega) hz, hm]; rfl)
     have hc := fun wx => letterByte_any (t[0]'hz) wx
     rw [hm] at hc
     have HC := Lib.hid hc
     clear hc hm
     go_enter Tryz.func110, Tryz.ntmps110
     go_wp2_with (first | (go_at_call 98; refine (In_yes _ _ _ _ (by omega) (by omega)).mono ?_; rintro e w' ⟨rfl, rfl⟩))
     go_quiet (first | (go_at_call 182; exact Calls.quiet_of_same (Calls.mono (HC.out _) (fun _ _ ⟨h1, h2⟩ => ⟨h1, h2.symm⟩))))
     go_wp2_with fail
     go_ret
     refine ⟨by rw [HF.out]; rfl, ?_⟩
     (repeat (first | with_reducible exact Below.refl _ _ | with_reducible refine Below.setCell ?_ ?_ _ | with_reducible refine Below.alloc ?_ ?_ _ | with_reducible refine Below.drew ?_ | with_reducible refine below_drewN ?_ _))
     all_goals (first | omega | (simp; done) | (simp; omega) | (dsimp only [World.drew] at *; omega))
    ·have hc := fun wx => letterByte_any (t[0]'hz) wx
     have hd := fun wx => wordEnd_any t 0 wx hs (by omega)
     rw [hm] at hc
     have HC := Lib.hid hc
     clear hc
     by_cases hr : runN tokB t 0 = t.size
     ·have HF := Lib.hid (show faultOf 2 t 0 = 0 by rw [fault_word 2 t (by omega) hz, if_pos ⟨hm, hr⟩])
      rw [hr, Nat.zero_add] at hd
      have HD := Lib.hid hd
      clear hd hm hr
      go_enter Tryz.func110, Tryz.ntmps110
      go_wp2_with (first | (go_at_call 98; refine (In_yes _ _ _ _ (by omega) (by omega)).mono ?_; rintro e w' ⟨rfl, rfl⟩))
      go_quiet (first | (go_at_call 182; exact Calls.quiet_of_same (Calls.mono (HC.out _) (fun _ _ ⟨h1, h2⟩ => ⟨h1, h2.symm⟩))) | (go_at_call 183; exact Calls.quiet_of_same (Calls.mono (HD.out _) (fun _ _ ⟨h1, h2⟩ => ⟨h1, h2.symm⟩))))
      go_wp2_with fail
      go_ret
      refine ⟨by rw [HF.out]; rfl, ?_⟩
      (repeat (first | with_reducible exact Below.refl _ _ | with_reducible refine Below.setCell ?_ ?_ _ | with_reducible refine Below.alloc ?_ ?_ _ | with_reducible refine Below.drew ?_ | with_reducible refine below_drewN ?_ _))
      all_goals (first | omega | (simp; done) | (simp; omega) | (dsimp only [World.drew] at *; omega))
     ·have HF := Lib.hid (show faultOf 2 t 0 = 3 by rw [fault_word 2 t (by omega) hz, if_neg (fun h => hr h.2)])
      rw [Nat.zero_add] at hd
      obtain ⟨r, hr'⟩ : ∃ r : Nat, r = runN tokB t 0 := ⟨_, rfl⟩
      rw [← hr'] at hd hr
      have i3 : (((r : Nat) : Int) == t.size) = false := by simp; omega
      have HD := Lib.hid hd
      clear hd hm hr hr'
      go_enter Tryz.func110, Tryz.ntmps110
      go_wp2_with (first | (go_at_call 98; refine (In_yes _ _ _ _ (by omega) (by omega)).mono ?_; rintro e w' ⟨rfl, rfl⟩))
      go_quiet (first | (go_at_call 182; exact Calls.quiet_of_same (Calls.mono (HC.out _) (fun _ _ ⟨h1, h2⟩ => ⟨h1, h2.symm⟩))) | (go_at_call 183; exact Calls.quiet_of_same (Calls.mono (HD.out _) (fun _ _ ⟨h1, h2⟩ => ⟨h1, h2.symm⟩))))
      go_wp2_with fail
      go_ret
      refine ⟨by rw [HF.out]; rfl, ?_⟩
      (repeat (first | with_reducible exact Below.refl _ _ | with_reducible refine Below.setCell ?_ ?_ _ | with_reducible refine Below.alloc ?_ ?_ _ | with_reducible refine Below.drew ?_ | with_reducible refine below_drewN ?_ _))
      all_goals (first | omega | (simp; done) | (simp; omega) | (dsimp only [World.drew] at *; omega))
   ·have i1 : (t.size : Int) ≤ 0 := by omega
    have i4 : ((t.size : Nat) : Int) = 0 := by omega
    have HF := Lib.hid (show faultOf 2 t 0 = 3 by unfold faultOf; rw [if_neg hin, if_neg h3, if_neg (by omega), if_neg h5, if_neg h4, dif_neg hz])
    clear hz
    go_enter Tryz.func110, Tryz.ntmps110
    go_wp2_with (first | (go_at_call 98; refine (In_yes _ _ _ _ (by omega) (by omega)).mono ?_; rintro e w' ⟨rfl, rfl⟩))
    go_quiet (fail)
    go_wp2_with fail
    go_ret
    refine ⟨by rw [HF.out]; rfl, ?_⟩
    (repeat (first | with_reducible exact Below.refl _ _ | with_reducible refine Below.setCell ?_ ?_ _ | with_reducible refine Below.alloc ?_ ?_ _ | with_reducible refine Below.drew ?_ | with_reducible refine below_drewN ?_ _))
    all_goals (first | omega | (simp; done) | (simp; omega) | (dsimp only [World.drew] at *; omega))
  ·have i1 : (n == 0) = false := by simpa using hn
   have HF := Lib.hid (show faultOf 2 t n = 3 by unfold faultOf; rw [if_neg hin, if_neg h3, if_pos hn])
   clear hn
   go_enter Tryz.func110, Tryz.ntmps110
   go_wp2_with (first | (go_at_call 98; refine (In_yes _ _ _ _ (by omega) (by omega)).mono ?_; rintro e w' ⟨rfl, rfl⟩))
   go_quiet (fail)
   go_wp2_with fail
   go_ret
   refine ⟨by rw [HF.out]; rfl, ?_⟩
   (repeat (first | with_reducible exact Below.refl _ _ | with_reducible refine Below.setCell ?_ ?_ _ | with_reducible refine Below.alloc ?_ ?_ _ | with_reducible refine Below.drew ?_ | with_reducible refine below_drewN ?_ _))
   all_goals (first | omega | (simp; done) | (simp; omega) | (dsimp only [World.drew] at *; omega))
 exfalso
 omega
end
section
open Go.RowKit
theorem word_check (g : Nat) (s : ByteArray) (w : World) (h0 : w.cell? ⟨g, 0, none⟩ = some (.string s)) (h1 : w.cell? ⟨g, 1, none⟩ = some (.int .i64 0)) (hz : w.frozen? ⟨g, 1, none⟩ = false) (hs : s.size ≤ maxLen) (hg : g ≤ w.heap.size) :
  Calls Tryz.prog 169 #[.pointer (some ⟨g, 0, none⟩)] w fun e w' => e = .returned (.string (s.extract 0 (runN tokB s 0))) ∧ Below g w w' :=
 (word_any g s 0 w h0 h1 hz hs (Nat.zero_le _)).mono fun _ _ ⟨h, k, _⟩ => ⟨by rw [h, Nat.zero_add], k.below (Nat.le_refl _) hg⟩
theorem run_text (s : ByteArray) (h : runN tokB s 0 = s.size) : s.extract 0 (runN tokB s 0) = s := by
 rw [h]
 exact ByteArray.extract_zero_size
theorem run_other (s : ByteArray) (h : runN tokB s 0 ≠ s.size) : ((s.extract 0 (runN tokB s 0)).toList == s.toList) = false := by
 have hle := runN_le tokB s 0 (Nat.zero_le _)
 refine text_ne fun he => ?_
 have := congrArg ByteArray.size he
 rw [ByteArray.size_extract] at this
 omega
theorem fault_mark_no (t : ByteArray) (n : Int) (h : ∀ hz : t.size = 1, markB t[0] = false) : faultOf 5 t n = 3 := by
 unfold faultOf
 rw [if_neg (by omega), if_neg (by decide)]
 by_cases hn : n ≠ 0
 ·rw [if_pos hn]
 ·rw [if_neg hn, if_pos rfl]
  by_cases hz : t.size = 1
  ·rw [dif_pos hz, if_neg (by rw [h hz]; decide)]
  ·rw [dif_neg hz]
theorem fault_word_no (k : Int) (t : ByteArray) (n : Int) (hk : k = 1 ∨ k = 2) (h : ∀ hz : 0 < t.size, ¬ (letterB t[0] = true ∧ runN tokB t 0 = t.size)) : faultOf k t n = 3 := by
 unfold faultOf
 rw [if_neg (by omega), if_neg (by omega)]
 by_cases hn : n ≠ 0
 ·rw [if_pos hn]
 ·rw [if_neg hn, if_neg (by omega), if_neg (by omega)]
  by_cases hz : 0 < t.size
  ·rw [dif_pos hz, if_neg (h hz)]
  ·rw [dif_neg hz]
theorem one_byte (t : ByteArray) (h : t.size = 1) : t = ⟨#[t[0]]⟩ := by
 apply bs_inj
 have hl : (bs t).length = 1 := by rw [bs_len]; exact h
 match hb : bs t, hl with
 | [c], _ =>
  have : t[0] = c := by
   have e : (bs t)[0]? = some t[0] := by rw [List.getElem?_eq_getElem (by rw [bs_len]; omega)]; rfl
   rw [hb] at e
   exact (Option.some.inj e).symm
  rw [this]
  rfl
theorem mark_in (c : UInt8) : decide (0 ≤ Lib.indexByte [123, 125, 40, 41, 91, 93, 59, 44] c) = markB c := by
 rw [← Lib.contains_iff_indexByte]
 unfold markB
 rw [Bool.eq_iff_iff]
 simp [← UInt8.toNat_inj, or_assoc]
theorem contains_mark (t : ByteArray) (h : t.size = 1) (w : World) : Calls Tryz.prog 174 #[.string ⟨#[123, 125, 40, 41, 91, 93, 59, 44]⟩, .string t] w fun e w' => e = .returned (.bool (markB t[0])) ∧ w = w' := by
 have hc := Tryz.strings_Contains_one ⟨#[123, 125, 40, 41, 91, 93, 59, 44]⟩ t[0] w
 rw [← one_byte t h] at hc
 exact hc.mono fun _ _ ⟨a, b⟩ => ⟨by rw [a]; congr 2; exact mark_in _, b.symm⟩
theorem tokenCheck_any (k : Int) (t : ByteArray) (n : Int) (w : World) (hs : t.size ≤ maxLen) :
  Calls Tryz.prog 105 #[.agg #[.int .i64 k, .string t, .int .i64 n]] w (FaultIs k t n w) := by
 have hs' := hs
 unfold maxLen at hs'
 by_cases h3 : k = 3
 ·subst h3
  by_cases hn : n < 0
  ·have HF := Lib.hid (show faultOf 3 t n = 6 by unfold faultOf; rw [if_neg (by omega), if_pos rfl, if_pos (.inl hn)])
   go_enter Tryz.func105, Tryz.ntmps105
   go_wp2_with (fail)
   go_ret
   refine ⟨by rw [HF.out]; rfl, ?_⟩
   (repeat (first | with_reducible exact Below.refl _ _ | with_reducible refine Below.setCell ?_ ?_ _ | with_reducible refine Below.alloc ?_ ?_ _ | with_reducible refine Below.drew ?_ | with_reducible refine below_drewN ?_ _))
   all_goals (first | omega | (simp; done) | (simp; omega) | (dsimp only [World.drew] at *; omega))
  by_cases hn2 : 2147483647 < n
  ·have HF := Lib.hid (show faultOf 3 t n = 6 by unfold faultOf; rw [if_neg (by omega), if_pos rfl, if_pos (.inr hn2)])
   go_enter Tryz.func105, Tryz.ntmps105
   go_wp2_with (fail)
   go_ret
   refine ⟨by rw [HF.out]; rfl, ?_⟩
   (repeat (first | with_reducible exact Below.refl _ _ | with_reducible refine Below.setCell ?_ ?_ _ | with_reducible refine Below.alloc ?_ ?_ _ | with_reducible refine Below.drew ?_ | with_reducible refine below_drewN ?_ _))
   all_goals (first | omega | (simp; done) | (simp; omega) | (dsimp only [World.drew] at *; omega))
  by_cases hz : 0 < t.size
  ·have HF := Lib.hid (show faultOf 3 t n = 3 by unfold faultOf; rw [if_neg (by omega), if_pos rfl, if_neg (by omega), if_pos hz])
   have i1 : t.toList.isEmpty = false := by
    cases hb : t.toList.isEmpty
    ·rfl
    ·have h2 := List.isEmpty_iff.1 hb
     rw [ByteArray.toList_eq] at h2
     have h4 : (bs t).length = 0 := by unfold bs; rw [h2]; rfl
     rw [bs_len] at h4
     omega
   go_enter Tryz.func105, Tryz.ntmps105
   go_wp2_with (fail)
   go_ret
   refine ⟨by rw [HF.out]; rfl, ?_⟩
   (repeat (first | with_reducible exact Below.refl _ _ | with_reducible refine Below.setCell ?_ ?_ _ | with_reducible refine Below.alloc ?_ ?_ _ | with_reducible refine Below.drew ?_ | with_reducible refine below_drewN ?_ _))
   all_goals (first | omega | (simp; done) | (simp; omega) | (dsimp only [World.drew] at *; omega))
  ·have HF := Lib.hid (show faultOf 3 t n = 0 by unfold faultOf; rw [if_neg (by omega), if_pos rfl, if_neg (by omega), if_neg hz])
   obtain rfl : t = ⟨#[]⟩ := by
    apply bs_inj
    have hl : (bs t).length = 0 := by rw [bs_len]; omega
    rw [List.length_eq_zero_iff.1 hl]
    rfl
   go_enter Tryz.func105, Tryz.ntmps105
   go_wp2_with (fail)
   go_ret
   refine ⟨by rw [HF.out]; rfl, ?_⟩
   (repeat (first | with_reducible exact Below.refl _ _ | with_reducible refine Below.setCell ?_ ?_ _ | with_reducible refine Below.alloc ?_ ?_ _ | with_reducible refine Below.drew ?_ | with_reducible refine below_drewN ?_ _))
   all_goals (first | omega | (simp; done) | (simp; omega) | (dsimp only [World.drew] at *; omega))
 by_cases h5 : k = 5
 ·subst h5
  by_cases hz : t.size = 1
  ·have i1 : ((t.size : Nat) : Int) = 1 := by omega
   cases hm : markB (t[0]'(by omega))
   ·have HF := Lib.hid (fault_mark_no t n (fun _ => hm))
    have hc := fun wx => contains_mark t hz wx
    rw [hm] at hc
    have HC := Lib.hid hc
    clear hc hm
    go_enter Tryz.func105, Tryz.ntmps105
    go_wp2_with (first | (go_at_call 174; refine (HC.out _).mono ?_; rintro e w' ⟨rfl, rfl⟩))
    go_ret
    refine ⟨by rw [HF.out]; rfl, ?_⟩
    (repeat (first | with_reducible exact Below.refl _ _ | with_reducible refine Below.setCell ?_ ?_ _ | with_reducible refine Below.alloc ?_ ?_ _ | with_reducible refine Below.drew ?_ | with_reducible refine below_drewN ?_ _))
    all_goals (first | omega | (simp; done) | (simp; omega) | (dsimp only [World.drew] at *; omega))
   ·by_cases hn : n = 0
    ·subst hn
     have HF := Lib.hid (show faultOf 5 t 0 = 0 by unfold faultOf; rw [if_neg (by omega), if_neg h3, if_neg (by omega), if_pos rfl, dif_pos hz, hm]; rfl)
     have hc := fun wx => contains_mark t hz wx
     rw [hm] at hc
     have HC := Lib.hid hc
     clear hc hm
     go_enter Tryz.func105, Tryz.ntmps105
     go_wp2_with (first | (go_at_call 174; refine (HC.out _).mono ?_; rintro e w' ⟨rfl, rfl⟩))
     go_ret
     refine ⟨by rw [HF.out]; rfl, ?_⟩
     (repeat (first | with_reducible exact Below.refl _ _ | with_reducible refine Below.setCell ?_ ?_ _ | with_reducible refine Below.alloc ?_ ?_ _ | with_reducible refine Below.drew ?_ | with_reducible refine below_drewN ?_ _))
     all_goals (first | omega | (simp; done) | (simp; omega) | (dsimp only [World.drew] at *; omega))
    ·have i2 : (n == 0) = false := by simpa using hn
     have HF := Lib.hid (show faultOf 5 t n = 3 by unfold faultOf; rw [if_neg (by omega), if_neg h3, if_pos hn])
     clear hn
     have hc := fun wx => contains_mark t hz wx
     rw [hm] at hc
     have HC := Lib.hid hc
     clear hc hm
     go_enter Tryz.func105, Tryz.ntmps105
     go_wp2_with (first | (go_at_call 174; refine (HC.out _).mono ?_; rintro e w' ⟨rfl, rfl⟩))
     go_ret
     refine ⟨by rw [HF.out]; rfl, ?_⟩
     (repeat (first | with_reducible exact Below.refl _ _ | with_reducible refine Below.setCell ?_ ?_ _ | with_reducible refine Below.alloc ?_ ?_ _ | with_reducible refine Below.drew ?_ | with_reducible refine below_drewN ?_ _))
     all_goals (first | omega | (simp; done) | (simp; omega) | (dsimp only [World.drew] at *; omega))
  ·have i1 : (((t.size : Nat) : Int) == 1) = false := beq_false_of_ne (by omega)
   have i2 : (((t.size : Nat) : Int) != 1) = true := by simp only [bne, i1]; rfl
   have i3 : ¬ ((t.size : Nat) : Int) = 1 := by omega
   have HF := Lib.hid (fault_mark_no t n (fun h => absurd h hz))
   clear hz
   go_enter Tryz.func105, Tryz.ntmps105
   go_wp2_with (fail)
   go_ret
   refine ⟨by rw [HF.out]; rfl, ?_⟩
   (repeat (first | with_reducible exact Below.refl _ _ | with_reducible refine Below.setCell ?_ ?_ _ | with_reducible refine Below.alloc ?_ ?_ _ | with_reducible refine Below.drew ?_ | with_reducible refine below_drewN ?_ _))
   all_goals (first | omega | (simp; done) | (simp; omega) | (dsimp only [World.drew] at *; omega))
 by_cases h4 : k = 4
 ·subst h4
  by_cases hn : n = 0
  ·subst hn
   have HF := Lib.hid (show faultOf 4 t 0 = 0 by unfold faultOf; rw [if_neg (by omega), if_neg h3, if_neg (by omega), if_neg h5, if_pos rfl])
   go_enter Tryz.func105, Tryz.ntmps105
   go_wp2_with (fail)
   go_ret
   refine ⟨by rw [HF.out]; rfl, ?_⟩
   (repeat (first | with_reducible exact Below.refl _ _ | with_reducible refine Below.setCell ?_ ?_ _ | with_reducible refine Below.alloc ?_ ?_ _ | with_reducible refine Below.drew ?_ | with_reducible refine below_drewN ?_ _))
   all_goals (first | omega | (simp; done) | (simp; omega) | (dsimp only [World.drew] at *; omega))
  ·have i2 : (n == 0) = false := by simpa using hn
   have HF := Lib.hid (show faultOf 4 t n = 3 by unfold faultOf; rw [if_neg (by omega), if_neg h3, if_pos hn])
   clear hn
   go_enter Tryz.func105, Tryz.ntmps105
   go_wp2_with (fail)
   go_ret
   refine ⟨by rw [HF.out]; rfl, ?_⟩
   (repeat (first | with_reducible exact Below.refl _ _ | with_reducible refine Below.setCell ?_ ?_ _ | with_reducible refine Below.alloc ?_ ?_ _ | with_reducible refine Below.drew ?_ | with_reducible refine below_drewN ?_ _))
   all_goals (first | omega | (simp; done) | (simp; omega) | (dsimp only [World.drew] at *; omega))
 by_cases h1 : k = 1
 ·subst h1
  by_cases hl : ∃ hz : 0 < t.size, letterB (t[0]'hz) = true
  ·obtain ⟨hz, hm⟩ := hl
   have hc := fun wx => letter_any (t[0]'hz) wx
   rw [hm] at hc
   have HC := Lib.hid hc
   have hnx := fun wx h0 h1 => next_any (w.heap.size + 1) t 0 wx h0 h1 hs
   rw [nextB_in t 0 hz] at hnx
   have HN := Lib.hid hnx
   have hw := fun wx h0 h1 hz hg => word_check (w.heap.size + 1) t wx h0 h1 hz hs hg
   clear hc hnx
   by_cases hr : runN tokB t 0 = t.size
   ·rw [run_text t hr] at hw
    have HW := Lib.hid hw
    clear hw
    by_cases hn : n = 0
    ·subst hn
     have HF := Lib.hid (show faultOf 1 t 0 = 0 by rw [fault_word 1 t (by omega) hz, if_pos ⟨hm, hr⟩])
     clear hm hr
     go_enter Tryz.func105, Tryz.ntmps105
     go_wp2_with (fail)
     go_region_held3 (fun w' => w'.cell? ⟨w.heap.size, 1, none⟩ = some (.string t)) (((try dsimp only); (repeat' apply And.intro) <;> (go_keep; done))) (first | (go_at_call 164; refine (HN.out _ (by simp [go_sem]) (by simp [go_sem])).mono ?_; rintro e wq ⟨rfl, nq, rfl⟩) | (go_at_call 168; refine (HC.out _).mono ?_; rintro e wq ⟨rfl, rfl⟩) | (go_at_call 169; refine (HW.out _ (by simp [go_sem]) (by simp [go_sem]) (by simp [go_sem]) (by simp)).mono ?_; rintro e w1 ⟨rfl, hb⟩; obtain ⟨k1a, k1b, k1c⟩ := own_at hb (b := w.heap.size) (by first | omega | (simp; done) | (simp; omega)); have z2 := hb.size; (try simp only [World.size_alloc, World.size_setCell] at z2)))
     go_wp2_with fail
     go_ret
     refine ⟨by rw [HF.out]; rfl, ?_⟩
     (repeat (first | with_reducible exact hb | with_reducible refine Below.trans ?_ (Below.mono hb ?_) | with_reducible exact Below.refl _ _ | with_reducible refine Below.setCell ?_ ?_ _ | with_reducible refine Below.alloc ?_ ?_ _ | with_reducible refine Below.drew ?_ | with_reducible refine below_drewN ?_ _))
     all_goals (first | omega | (simp; done) | (simp; omega) | (dsimp only [World.drew] at *; omega))
    ·have i2 : (n == 0) = false := by simpa using hn
     have HF := Lib.hid (show faultOf 1 t n = 3 by unfold faultOf; rw [if_neg (by omega), if_neg h3, if_pos hn])
     clear hn hm hr
     go_enter Tryz.func105, Tryz.ntmps105
     go_wp2_with (fail)
     go_region_held3 (fun w' => w'.cell? ⟨w.heap.size, 1, none⟩ = some (.string t)) (((try dsimp only); (repeat' apply And.intro) <;> (go_keep; done))) (first | (go_at_call 164; refine (HN.out _ (by simp [go_sem]) (by simp [go_sem])).mono ?_; rintro e wq ⟨rfl, nq, rfl⟩) | (go_at_call 168; refine (HC.out _).mono ?_; rintro e wq ⟨rfl, rfl⟩) | (go_at_call 169; refine (HW.out _ (by simp [go_sem]) (by simp [go_sem]) (by simp [go_sem]) (by simp)).mono ?_; rintro e w1 ⟨rfl, hb⟩; obtain ⟨k3a, k3b, k3c⟩ := own_at hb (b := w.heap.size) (by first | omega | (simp; done) | (simp; omega)); have z4 := hb.size; (try simp only [World.size_alloc, World.size_setCell] at z4)))
     go_wp2_with fail
     go_ret
     refine ⟨by rw [HF.out]; rfl, ?_⟩
     (repeat (first | with_reducible exact hb | with_reducible refine Below.trans ?_ (Below.mono hb ?_) | with_reducible exact Below.refl _ _ | with_reducible refine Below.setCell ?_ ?_ _ | with_reducible refine Below.alloc ?_ ?_ _ | with_reducible refine Below.drew ?_ | with_reducible refine below_drewN ?_ _))
     all_goals (first | omega | (simp; done) | (simp; omega) | (dsimp only [World.drew] at *; omega))
   ·have HF := Lib.hid (fault_word_no 1 t n (by omega) (fun _ h => hr h.2))
    have i3 := run_other t hr
    obtain ⟨u, hu⟩ : ∃ u, u = t.extract 0 (runN tokB t 0) := ⟨_, rfl⟩
    rw [← hu] at hw i3
    have HW := Lib.hid hw
    clear hw hm hr hu
    go_enter Tryz.func105, Tryz.ntmps105
    go_wp2_with (fail)
    go_region_held3 (fun w' => w'.cell? ⟨w.heap.size, 1, none⟩ = some (.string t)) (((try dsimp only); (repeat' apply And.intro) <;> (go_keep; done))) (first | (go_at_call 164; refine (HN.out _ (by simp [go_sem]) (by simp [go_sem])).mono ?_; rintro e wq ⟨rfl, nq, rfl⟩) | (go_at_call 168; refine (HC.out _).mono ?_; rintro e wq ⟨rfl, rfl⟩) | (go_at_call 169; refine (HW.out _ (by simp [go_sem]) (by simp [go_sem]) (by simp [go_sem]) (by simp)).mono ?_; rintro e w1 ⟨rfl, hb⟩; obtain ⟨k5a, k5b, k5c⟩ := own_at hb (b := w.heap.size) (by first | omega | (simp; done) | (simp; omega)); have z6 := hb.size; (try simp only [World.size_alloc, World.size_setCell] at z6)))
    go_wp2_with fail
    go_ret
    refine ⟨by rw [HF.out]; rfl, ?_⟩
    (repeat (first | with_reducible exact hb | with_reducible refine Below.trans ?_ (Below.mono hb ?_) | with_reducible exact Below.refl _ _ | with_reducible refine Below.setCell ?_ ?_ _ | with_reducible refine Below.alloc ?_ ?_ _ | with_reducible refine Below.drew ?_ | with_reducible refine below_drewN ?_ _))
    all_goals (first | omega | (simp; done) | (simp; omega) | (dsimp only [World.drew] at *; omega))
  ·have HF := Lib.hid (fault_word_no 1 t n (by omega) (fun hz h => hl ⟨hz, h.1⟩))
   obtain ⟨c, hnc, hcl⟩ : ∃ c : UInt8, nextB t 0 = c ∧ letterB c = false := by
    by_cases hz : 0 < t.size
    ·refine ⟨_, nextB_in t 0 hz, ?_⟩
     cases hm : letterB (t[0]'hz)
     ·rfl
     ·exact absurd ⟨hz, hm⟩ hl
    ·exact ⟨_, nextB_out t 0 (by omega), by decide⟩
   have hc := fun wx => letter_any c wx
   rw [hcl] at hc
   have HC := Lib.hid hc
   have hnx := fun wx h0 h1 => next_any (w.heap.size + 1) t 0 wx h0 h1 hs
   rw [hnc] at hnx
   have HN := Lib.hid hnx
   clear hc hnx hnc hcl hl
   go_enter Tryz.func105, Tryz.ntmps105
   go_wp2_with (fail)
   go_quiet (first | (go_at_call 164; exact Calls.quiet_of (Calls.mono (HN.out _ (by simp [go_sem]) (by simp [go_sem])) (fun _ _ ⟨h1, h2⟩ => ⟨h1, h2⟩))) | (go_at_call 168; exact Calls.quiet_of_same (Calls.mono (HC.out _) (fun _ _ ⟨h1, h2⟩ => ⟨h1, h2.symm⟩))))
   go_wp2_with fail
   go_ret
   refine ⟨by rw [HF.out]; rfl, ?_⟩
   (repeat (first | with_reducible exact Below.refl _ _ | with_reducible refine Below.setCell ?_ ?_ _ | with_reducible refine Below.alloc ?_ ?_ _ | with_reducible refine Below.drew ?_ | with_reducible refine below_drewN ?_ _))
   all_goals (first | omega | (simp; done) | (simp; omega) | (dsimp only [World.drew] at *; omega))
 by_cases h2 : k = 2
 ·subst h2
  by_cases hl : ∃ hz : 0 < t.size, letterB (t[0]'hz) = true
  ·obtain ⟨hz, hm⟩ := hl
   have hc := fun wx => letter_any (t[0]'hz) wx
   rw [hm] at hc
   have HC := Lib.hid hc
   have hnx := fun wx h0 h1 => next_any (w.heap.size + 1) t 0 wx h0 h1 hs
   rw [nextB_in t 0 hz] at hnx
   have HN := Lib.hid hnx
   have hw := fun wx h0 h1 hz hg => word_check (w.heap.size + 1) t wx h0 h1 hz hs hg
   clear hc hnx
   by_cases hr : runN tokB t 0 = t.size
   ·rw [run_text t hr] at hw
    have HW := Lib.hid hw
    clear hw
    by_cases hn : n = 0
    ·subst hn
     have HF := Lib.hid (show faultOf 2 t 0 = 0 by rw [fault_word 2 t (by omega) hz, if_pos ⟨hm, hr⟩])
     clear hm hr
     go_enter Tryz.func105, Tryz.ntmps105
     go_wp2_with (fail)
     go_region_held3 (fun w' => w'.cell? ⟨w.heap.size, 1, none⟩ = some (.string t)) (((try dsimp only); (repeat' apply And.intro) <;> (go_keep; done))) (first | (go_at_call 164; refine (HN.out _ (by simp [go_sem]) (by simp [go_sem])).mono ?_; rintro e wq ⟨rfl, nq, rfl⟩) | (go_at_call 168; refine (HC.out _).mono ?_; rintro e wq ⟨rfl, rfl⟩) | (go_at_call 169; refine (HW.out _ (by simp [go_sem]) (by simp [go_sem]) (by simp [go_sem]) (by simp)).mono ?_; rintro e w1 ⟨rfl, hb⟩; obtain ⟨k7a, k7b, k7c⟩ := own_at hb (b := w.heap.size) (by first | omega | (simp; done) | (simp; omega)); have z8 := hb.size; (try simp only [World.size_alloc, World.size_setCell] at z8)))
     go_wp2_with fail
     go_ret
     refine ⟨by rw [HF.out]; rfl, ?_⟩
     (repeat (first | with_reducible exact hb | with_reducible refine Below.trans ?_ (Below.mono hb ?_) | with_reducible exact Below.refl _ _ | with_reducible refine Below.setCell ?_ ?_ _ | with_reducible refine Below.alloc ?_ ?_ _ | with_reducible refine Below.drew ?_ | with_reducible refine below_drewN ?_ _))
     all_goals (first | omega | (simp; done) | (simp; omega) | (dsimp only [World.drew] at *; omega))
    ·have i2 : (n == 0) = false := by simpa using hn
     have HF := Lib.hid (show faultOf 2 t n = 3 by unfold faultOf; rw [if_neg (by omega), if_neg h3, if_pos hn])
     clear hn hm hr
     go_enter Tryz.func105, Tryz.ntmps105
     go_wp2_with (fail)
     go_region_held3 (fun w' => w'.cell? ⟨w.heap.size, 1, none⟩ = some (.string t)) (((try dsimp only); (repeat' apply And.intro) <;> (go_keep; done))) (first | (go_at_call 164; refine (HN.out _ (by simp [go_sem]) (by simp [go_sem])).mono ?_; rintro e wq ⟨rfl, nq, rfl⟩) | (go_at_call 168; refine (HC.out _).mono ?_; rintro e wq ⟨rfl, rfl⟩) | (go_at_call 169; refine (HW.out _ (by simp [go_sem]) (by simp [go_sem]) (by simp [go_sem]) (by simp)).mono ?_; rintro e w1 ⟨rfl, hb⟩; obtain ⟨k9a, k9b, k9c⟩ := own_at hb (b := w.heap.size) (by first | omega | (simp; done) | (simp; omega)); have z10 := hb.size; (try simp only [World.size_alloc, World.size_setCell] at z10)))
     go_wp2_with fail
     go_ret
     refine ⟨by rw [HF.out]; rfl, ?_⟩
     (repeat (first | with_reducible exact hb | with_reducible refine Below.trans ?_ (Below.mono hb ?_) | with_reducible exact Below.refl _ _ | with_reducible refine Below.setCell ?_ ?_ _ | with_reducible refine Below.alloc ?_ ?_ _ | with_reducible refine Below.drew ?_ | with_reducible refine below_drewN ?_ _))
     all_goals (first | omega | (simp; done) | (simp; omega) | (dsimp only [World.drew] at *; omega))
   ·have HF := Lib.hid (fault_word_no 2 t n (by omega) (fun _ h => hr h.2))
    have i3 := run_other t hr
    obtain ⟨u, hu⟩ : ∃ u, u = t.extract 0 (runN tokB t 0) := ⟨_, rfl⟩
    rw [← hu] at hw i3
    have HW := Lib.hid hw
    clear hw hm hr hu
    go_enter Tryz.func105, Tryz.ntmps105
    go_wp2_with (fail)
    go_region_held3 (fun w' => w'.cell? ⟨w.heap.size, 1, none⟩ = some (.string t)) (((try dsimp only); (repeat' apply And.intro) <;> (go_keep; done))) (first | (go_at_call 164; refine (HN.out _ (by simp [go_sem]) (by simp [go_sem])).mono ?_; rintro e wq ⟨rfl, nq, rfl⟩) | (go_at_call 168; refine (HC.out _).mono ?_; rintro e wq ⟨rfl, rfl⟩) | (go_at_call 169; refine (HW.out _ (by simp [go_sem]) (by simp [go_sem]) (by simp [go_sem]) (by simp)).mono ?_; rintro e w1 ⟨rfl, hb⟩; obtain ⟨k11a, k11b, k11c⟩ := own_at hb (b := w.heap.size) (by first | omega | (simp; done) | (simp; omega)); have z12 := hb.size; (try simp only [World.size_alloc, World.size_setCell] at z12)))
    go_wp2_with fail
    go_ret
    refine ⟨by rw [HF.out]; rfl, ?_⟩
    (repeat (first | with_reducible exact hb | with_reducible refine Below.trans ?_ (Below.mono hb ?_) | with_reducible exact Below.refl _ _ | with_reducible refine Below.setCell ?_ ?_ _ | with_reducible refine Below.alloc ?_ ?_ _ | with_reducible refine Below.drew ?_ | with_reducible refine below_drewN ?_ _))
    all_goals (first | omega | (simp; done) | (simp; omega) | (dsimp only [World.drew] at *; omega))
  ·have HF := Lib.hid (fault_word_no 2 t n (by omega) (fun hz h => hl ⟨hz, h.1⟩))
   obtain ⟨c, hnc, hcl⟩ : ∃ c : UInt8, nextB t 0 = c ∧ letterB c = false := by
    by_cases hz : 0 < t.size
    ·refine ⟨_, nextB_in t 0 hz, ?_⟩
     cases hm : letterB (t[0]'hz)
     ·rfl
     ·exact absurd ⟨hz, hm⟩ hl
    ·exact ⟨_, nextB_out t 0 (by omega), by decide⟩
   have hc := fun wx => letter_any c wx
   rw [hcl] at hc
   have HC := Lib.hid hc
   have hnx := fun wx h0 h1 => next_any (w.heap.size + 1) t 0 wx h0 h1 hs
   rw [hnc] at hnx
   have HN := Lib.hid hnx
   clear hc hnx hnc hcl hl
   go_enter Tryz.func105, Tryz.ntmps105
   go_wp2_with (fail)
   go_quiet (first | (go_at_call 164; exact Calls.quiet_of (Calls.mono (HN.out _ (by simp [go_sem]) (by simp [go_sem])) (fun _ _ ⟨h1, h2⟩ => ⟨h1, h2⟩))) | (go_at_call 168; exact Calls.quiet_of_same (Calls.mono (HC.out _) (fun _ _ ⟨h1, h2⟩ => ⟨h1, h2.symm⟩))))
   go_wp2_with fail
   go_ret
   refine ⟨by rw [HF.out]; rfl, ?_⟩
   (repeat (first | with_reducible exact Below.refl _ _ | with_reducible refine Below.setCell ?_ ?_ _ | with_reducible refine Below.alloc ?_ ?_ _ | with_reducible refine Below.drew ?_ | with_reducible refine below_drewN ?_ _))
   all_goals (first | omega | (simp; done) | (simp; omega) | (dsimp only [World.drew] at *; omega))
 ·have HF := Lib.hid (show faultOf k t n = 2 by unfold faultOf; rw [if_pos (by omega)])
  have j1 : (k == 1) = false := by simpa using h1
  have j2 : (k == 2) = false := by simpa using h2
  have j3 : (k == 3) = false := by simpa using h3
  have j4 : (k == 4) = false := by simpa using h4
  have j5 : (k == 5) = false := by simpa using h5
  clear h1 h2 h3 h4 h5
  go_enter Tryz.func105, Tryz.ntmps105
  go_wp2_with (fail)
  go_ret
  refine ⟨by rw [HF.out]; rfl, ?_⟩
  (repeat (first | with_reducible exact Below.refl _ _ | with_reducible refine Below.setCell ?_ ?_ _ | with_reducible refine Below.alloc ?_ ?_ _ | with_reducible refine Below.drew ?_ | with_reducible refine below_drewN ?_ _))
  all_goals (first | omega | (simp; done) | (simp; omega) | (dsimp only [World.drew] at *; omega))
end
section
def tkE (t : Tk) : Int := faultOf t.kind ⟨t.text.toArray⟩ t.num
theorem tkCheck_c (T : Tbl) (t : Tk) : PC Tryz.prog T 105 [.agg (tkA t)] (.d (.int .i64 (tkE t))) := PC.old Tryz.call105 fun F w vs hF hT R => by
 obtain ⟨v, rfl, hv⟩ := slr1 R
 obtain ⟨us, rfl, hr⟩ := hv.agg_inv
 obtain ⟨v1, v2, v3, rfl, h1, h2, h3⟩ := slr3 hr
 cases h1 with
 | d h1 =>
  cases h2 with
  | d h2 =>
   cases h3 with
   | d h3 =>
    obtain rfl := h1.int_inv
    obtain rfl := h3.int_inv
    obtain ⟨t2, rfl, e2, hz⟩ := h2.str_inv
    refine (tokenCheck_any t.kind t2 t.num w hz).mono ?_
    rintro e w' ⟨rfl, hb⟩
    have q : t2 = ⟨t.text.toArray⟩ := by rw [← e2]
    rw [q]
    exact ⟨_, rfl, hb, .d (.int _ _)⟩
theorem tkFault_c (T : Tbl) (t : Tk) : PC Tryz.prog T 110 [.agg (tkA t)] (.d (.int .i64 (tkE t))) := PC.old Tryz.call110 fun F w vs hF hT R => by
 obtain ⟨v, rfl, hv⟩ := slr1 R
 obtain ⟨us, rfl, hr⟩ := hv.agg_inv
 obtain ⟨v1, v2, v3, rfl, h1, h2, h3⟩ := slr3 hr
 cases h1 with
 | d h1 =>
  cases h2 with
  | d h2 =>
   cases h3 with
   | d h3 =>
    obtain rfl := h1.int_inv
    obtain rfl := h3.int_inv
    obtain ⟨t2, rfl, e2, hz⟩ := h2.str_inv
    refine (tokenFault_any t.kind t2 t.num w hz).mono ?_
    rintro e w' ⟨rfl, hb⟩
    have q : t2 = ⟨t.text.toArray⟩ := by rw [← e2]
    rw [q]
    exact ⟨_, rfl, hb, .d (.int _ _)⟩
end
section
inductive Rd (α : Type) where
 | ok (a : α) (i : Nat)
 | err (i : Nat) (e : Int)
 | oof
def rob (b : Nat) (l : List Tk) (i : Nat) : Nat × Ob := (b, ⟨2, 1, [[.d (.slc 3 (tksD l)), .d (.int .i64 i)]]⟩)
attribute [go_sem] rob
def gv (l : List Tk) (i : Nat) (e : Int) : Int := if l.length ≤ i then 4 else e
def RD {α : Type} (b : Nat) (F : List (Nat × Ob)) (L : List Nat) (l : List Tk) (f : α → AV) : Rd α → AR → AH → Prop
 | .ok a i, x, h => x = .ret (f a) ∧ h = ⟨rob b l i :: F, L⟩
 | .err i e, x, h => x = .pan (.ifc 174 (.agg [.d (.int .i64 i), .d (.int .i64 (gv l i e))])) ∧ h = ⟨rob b l i :: F, L⟩
 | .oof, _, _ => True
def isT (l : List Tk) (i : Nat) (k : Int) (s : Tx) : Bool := decide (i < l.length) && (decide ((l.getD i ⟨0, [], 0⟩).kind = k) && decide ((l.getD i ⟨0, [], 0⟩).text = s))
theorem tksD_gD (l : List Tk) (i : Nat) (d : List D) (h : i < l.length) : (tksD l).getD i d = tkD (l[i]) := by
 simp [tksD, List.getD, List.getElem?_eq_getElem h]
attribute [local go_sem] rob in
theorem give_c (T : Tbl) (b : Nat) (l : List Tk) (i : Nat) (F : List (Nat × Ob)) (L : List Nat) (e : Int) : AC Tryz.prog T 175 [.ptr b 2 0 0, .d (.int .i64 e)] (⟨rob b l i :: F, L⟩) (RD b F L l (fun (_ : Unit) => .tup []) (.err i e)) := by
 refine ⟨Tryz.call175, ACalls.enterS Tryz.func175 rfl Tryz.ntmps175 rfl fun hb => ?_⟩
 simp only [go_sem, Tryz.results175]
 refine Zs (Zd true [0, 1, 2, 3, 4, 5, 6, 7, 8, 9] ?_)
 refine Zy ?_
 refine Zm 2051 ?_
 refine Zc (fun hc0 => ?_) fun hc0 => ?_
 ·
  refine Zr (thenQ_n ?_)
  refine Zq fun K_ k_ => ?_
  refine Zy ?_
  refine DW.panic rfl rfl rfl ?_
  intro _
  refine endW_p [] [] [b] [] ?_
  simp only [RD, rob, gv]
  refine ⟨?_, by simp only [go_sem]⟩
  first | rw [if_pos (by omega)] | rw [if_neg (by omega)]
 refine Zk ?_
 refine Zq fun K_ k_ => ?_
 refine Zy ?_
 refine DW.panic rfl rfl rfl ?_
 intro _
 refine endW_p [] [] [b] [] ?_
 simp only [RD, rob, gv]
 refine ⟨?_, by simp only [go_sem]⟩
 first | rw [if_pos (by omega)] | rw [if_neg (by omega)]
attribute [local go_sem] rob tkD in
theorem is_in (T : Tbl) (b : Nat) (l : List Tk) (i : Nat) (F : List (Nat × Ob)) (L : List Nat) (k : Int) (s : Tx) (hl : i < l.length) : AC Tryz.prog T 239 [.ptr b 2 0 0, .d (.int .i64 k), .d (.str s)] (⟨rob b l i :: F, L⟩) (fun x h => x = .ret (.d (.bool (isT l i k s))) ∧ h = ⟨rob b l i :: F, L⟩) := by
 refine ⟨Tryz.call239, ACalls.enterS Tryz.func239 rfl Tryz.ntmps239 rfl fun hb => ?_⟩
 have hlt : ((i : Int) < (l.length : Int)) = True := by simp; omega
 have hgd := tksD_gD l i [] hl
 simp only [go_sem, Tryz.results239]
 refine Zp 7 ?_
 refine Zd true [0, 1, 2, 3, 4, 5, 6, 7, 8, 9, 10, 11, 12, 13, 14, 15, 16, 17, 18, 19, 20, 21, 22, 23, 24, 25, 26, 27, 28, 29, 30, 31, 32, 33, 34, 35, 36, 37, 38, 39, 40] ?_
 simp only [go_sem, hlt, hgd]
 refine Zm 8 ?_
 refine AWp.ret ?_
 apply endW_r [] [] [b] [] (by (try simp only [go_sem]) <;> rfl)
 · refine ⟨rfl, by simp only [go_sem]⟩
 · simp only [LeA, LeD]
   simp [isT, hl, List.getD]
attribute [local go_sem] rob decide_false Bool.false_and Bool.false_eq_true true_and and_true in
theorem is_out (T : Tbl) (b : Nat) (l : List Tk) (i : Nat) (F : List (Nat × Ob)) (L : List Nat) (k : Int) (s : Tx) (hl : l.length ≤ i) : AC Tryz.prog T 239 [.ptr b 2 0 0, .d (.int .i64 k), .d (.str s)] (⟨rob b l i :: F, L⟩) (fun x h => x = .ret (.d (.bool (isT l i k s))) ∧ h = ⟨rob b l i :: F, L⟩) := by
 refine ⟨Tryz.call239, ACalls.enterS Tryz.func239 rfl Tryz.ntmps239 rfl fun hb => ?_⟩
 have hlt : ((i : Int) < (l.length : Int)) = False := by simp; omega
 simp only [go_sem, Tryz.results239]
 refine Zp 7 ?_
 refine Zd true [0, 1, 2, 3, 4, 5, 6, 7, 8, 9, 10, 11, 12, 13, 14, 15, 16, 17, 18, 19, 20, 21, 22, 23, 24, 25, 26, 27, 28, 29, 30, 31, 32, 33, 34, 35, 36, 37, 38, 39, 40] ?_
 simp only [go_sem, hlt, false_imp_iff]
 refine Zm 8 ?_
 refine AWp.ret ?_
 apply endW_r [] [] [b] [] (by (try simp only [go_sem]) <;> rfl)
 · refine ⟨rfl, by simp only [go_sem]⟩
 · simp only [LeA, LeD]
   simp [isT, Nat.not_lt.2 hl]
theorem is_c (T : Tbl) (b : Nat) (l : List Tk) (i : Nat) (F : List (Nat × Ob)) (L : List Nat) (k : Int) (s : Tx) : AC Tryz.prog T 239 [.ptr b 2 0 0, .d (.int .i64 k), .d (.str s)] ⟨rob b l i :: F, L⟩ (fun x h => x = .ret (.d (.bool (isT l i k s))) ∧ h = ⟨rob b l i :: F, L⟩) := by
 rcases Nat.lt_or_ge i l.length with h | h
 ·exact is_in T b l i F L k s h
 ·exact is_out T b l i F L k s h
attribute [local go_sem] rob in
theorem eat_c (T : Tbl) (b : Nat) (l : List Tk) (i : Nat) (F : List (Nat × Ob)) (L : List Nat) (s : Tx) (hn : i ≤ 4096) : AC Tryz.prog T 240 [.ptr b 2 0 0, .d (.str s)] (⟨rob b l i :: F, L⟩) (fun x h => x = .ret (.d (.bool (isT l i 5 s))) ∧ h = ⟨rob b l (if isT l i 5 s = true then i + 1 else i) :: F, L⟩) := by
 refine ⟨Tryz.call240, ACalls.enterS Tryz.func240 rfl Tryz.ntmps240 rfl fun hb => ?_⟩
 simp only [go_sem, Tryz.results240]
 refine Zp 3 ?_
 refine Zs (Zx (Zy ?_))
 refine ZA [b] [] (is_c T b l i _ _ _ _) ?_
 rintro _ _ ⟨rfl, rfl⟩
 refine Zy ?_
 refine Zm 33 ?_
 refine Zc (fun hc0 => ?_) fun hc0 => ?_
 ·
  refine Zp 2 ?_
  refine AWp.ret ?_
  simp only [thenQ]
  apply endW_r [] [] [b] [] (by (try simp only [go_sem]) <;> rfl)
  · refine ⟨rfl, ?_⟩
    simp only [go_sem, if_neg (show ¬ isT l i 5 s = true by simpa using hc0)]
  · simp only [LeA, LeD]
    simp [hc0]
 refine Zk ?_
 refine Zp 0 ?_
 refine Zp 1 ?_
 refine AWp.ret ?_
 apply endW_r [] [] [b] [] (by (try simp only [go_sem]) <;> rfl)
 · refine ⟨rfl, ?_⟩
   simp [go_sem, hc0]
 · simp only [LeA, LeD]
   simp [hc0]
def mustR (l : List Tk) (i : Nat) (s : Tx) : Rd Unit := if isT l i 5 s = true then .ok () (i + 1) else .err i 3
def unitA : Unit → AV := fun _ => .tup []
attribute [local go_sem] rob Bool.false_eq_true in
theorem smust_c (T : Tbl) (b : Nat) (l : List Tk) (i : Nat) (F : List (Nat × Ob)) (L : List Nat) (s : Tx) (hn : i ≤ 4096) : AC Tryz.prog T 180 [.ptr b 2 0 0, .d (.str s)] (⟨rob b l i :: F, L⟩) (RD b F L l unitA (mustR l i s)) := by
 refine ⟨Tryz.call180, ACalls.enterS Tryz.func180 rfl Tryz.ntmps180 rfl fun hb => ?_⟩
 simp only [go_sem, Tryz.results180]
 refine Zx (Zy ?_)
 refine ZA [b] [] (eat_c T b l i _ _ _ (by omega)) ?_
 rintro _ _ ⟨rfl, rfl⟩
 refine Zy ?_
 refine Zm 33 ?_
 refine Zc (fun hc0 => ?_) fun hc0 => ?_
 ·
  refine Zq fun K_ k_ => ?_
  simp only [go_sem, *]
  refine ZA [b] [] (give_c T b l i _ _ _) ?_
  rintro _ _ ⟨rfl, rfl⟩
  intro _
  refine endW_p [] [] [b] [] ?_
  rw [mustR, if_neg (by simp [hc0])]
  exact ⟨rfl, by simp only [go_sem, rob]⟩
 refine AWp.skip ?_
 apply endW_n [] [] [b] [] (by (try simp only [go_sem]) <;> rfl)
 · rw [mustR, if_pos hc0]
   refine ⟨rfl, ?_⟩
   simp [go_sem, rob, hc0]
 · simp only [unitA, LeA, LeL]
end
section
def tk0 : Tk := ⟨0, [], 0⟩
def nx (l : List Tk) (i : Nat) (k : Int) : Bool := decide (i < l.length) && decide ((l.getD i tk0).kind = k)
def nextR (l : List Tk) (i : Nat) (k : Int) : Rd Tk := if nx l i k = true then .ok (l.getD i tk0) (i + 1) else .err i 3
def tkV : Tk → AV := fun t => .agg (tkA t)
theorem isT_lt {l : List Tk} {i : Nat} {k : Int} {s : Tx} (h : isT l i k s = true) : i < l.length := by
 simp only [isT, Bool.and_eq_true, decide_eq_true_eq] at h
 exact h.1
theorem nx_lt {l : List Tk} {i : Nat} {k : Int} (h : nx l i k = true) : i < l.length := by
 simp only [nx, Bool.and_eq_true, decide_eq_true_eq] at h
 exact h.1
theorem RD.cs {α : Type} {b : Nat} {F : List (Nat × Ob)} {L : List Nat} {l : List Tk} {f : α → AV} {r : Rd α} {x : AR} {h : AH} (H : RD b F L l f r x h) (hn : r ≠ .oof) :
  (∃ i e, r = .err i e ∧ x = .pan (.ifc 174 (.agg [.d (.int .i64 i), .d (.int .i64 (gv l i e))])) ∧ h = ⟨rob b l i :: F, L⟩) ∨ (∃ a i, r = .ok a i ∧ x = .ret (f a) ∧ h = ⟨rob b l i :: F, L⟩) := by
 cases r with
 | ok a i => exact .inr ⟨a, i, rfl, H⟩
 | err i e => exact .inl ⟨i, e, rfl, H⟩
 | oof => exact absurd rfl hn
theorem nextR_oof (l : List Tk) (i : Nat) (k : Int) : nextR l i k ≠ .oof := by unfold nextR; split <;> exact fun h => by cases h
theorem mustR_oof (l : List Tk) (i : Nat) (s : Tx) : mustR l i s ≠ .oof := by unfold mustR; split <;> exact fun h => by cases h
theorem nextR_ok {l : List Tk} {i j : Nat} {k : Int} {t : Tk} (h : nextR l i k = .ok t j) : nx l i k = true ∧ t = l.getD i tk0 ∧ j = i + 1 := by
 unfold nextR at h
 split at h
 ·rename_i h1
  injection h with h2 h3
  exact ⟨h1, h2.symm, h3.symm⟩
 ·cases h
theorem nextR_er {l : List Tk} {i j : Nat} {k e : Int} (h : nextR l i k = .err j e) : nx l i k = false ∧ j = i ∧ e = 3 := by
 unfold nextR at h
 split at h
 ·cases h
 ·rename_i h1
  injection h with h2 h3
  exact ⟨by simpa using h1, h2.symm, h3.symm⟩
theorem mustR_ok {l : List Tk} {i j : Nat} {s : Tx} {u : Unit} (h : mustR l i s = .ok u j) : isT l i 5 s = true ∧ j = i + 1 := by
 unfold mustR at h
 split at h
 ·rename_i h1
  injection h with h2 h3
  exact ⟨h1, h3.symm⟩
 ·cases h
theorem mustR_er {l : List Tk} {i j : Nat} {s : Tx} {e : Int} (h : mustR l i s = .err j e) : isT l i 5 s = false ∧ j = i ∧ e = 3 := by
 unfold mustR at h
 split at h
 ·cases h
 ·rename_i h1
  injection h with h2 h3
  exact ⟨by simpa using h1, h2.symm, h3.symm⟩
attribute [local go_sem] rob tkD Int.toNat_natCast in
theorem next_in (T : Tbl) (b : Nat) (l : List Tk) (i : Nat) (F : List (Nat × Ob)) (L : List Nat) (k : Int) (hl : i < l.length) (hn : i ≤ 4096) : AC Tryz.prog T 179 [.ptr b 2 0 0, .d (.int .i64 k)] (⟨rob b l i :: F, L⟩) (RD b F L l tkV (nextR l i k)) := by
 refine ⟨Tryz.call179, ACalls.enterS Tryz.func179 rfl Tryz.ntmps179 rfl fun hb => ?_⟩
 have hge : ((l.length : Int) ≤ (i : Int)) = False := by simp; omega
 have hlt : ((i : Int) < (l.length : Int)) = True := by simp; omega
 have hgd := tksD_gD l i [] hl
 have hge2 : l.getD i tk0 = l[i] := by simp [List.getD, List.getElem?_eq_getElem hl]
 have hsub : (i : Int) + 1 - 1 = (i : Int) := by omega
 simp only [go_sem, Tryz.results179]
 refine Zx (Zy ?_)
 intro b4
 first | intro fb4 | have fb4 := True.intro
 try simp only [freshL] at fb4
 refine Zs (Zd true [0, 1, 2, 3, 4, 5, 6, 7, 8, 9, 10, 11, 12, 13, 14, 15, 16, 17, 18, 19, 20, 21, 22, 23, 24] ?_)
 simp only [go_sem, hge, hlt, hgd, fb4]
 (repeat (with_reducible refine And.intro ZS ?_))
 refine Zm 134217733 ?_
 refine Zc (fun hc0 => ?_) fun hc0 => ?_
 ·
  refine Zq fun K_ k_ => ?_
  refine Zy ?_
  refine ZA [b] [] (give_c T b l i _ _ _) ?_
  rintro _ _ ⟨rfl, rfl⟩
  intro _
  simp only [thenQ]
  refine endW_p [b4] [] [b] [] ?_
  rw [nextR, if_neg (by simp [nx, hl]; exact hc0.resolve_left id)]
  exact ⟨rfl, by simp [go_sem, fb4]⟩
 refine Zk ?_
 refine Zp 3 ?_
 refine Zd true [0, 1, 2, 3, 4, 5, 6, 7, 8, 9, 10, 11] ?_
 simp only [go_sem, hlt, hgd, hsub, fb4]
 (repeat (with_reducible refine And.intro ZS ?_))
 refine Zm 2 ?_
 refine AWp.ret ?_
 apply endW_r [b4] [] [b] [] (by (try simp only [go_sem, fb4]) <;> rfl)
 · rw [nextR, if_pos (by simp [nx, hl]; first | exact hc0 | exact hc0.2)]
   refine ⟨rfl, ?_⟩
   simp [go_sem, rob]
 · rw [hge2]; simp [LeA, LeL, LeD, tkV, tkA]
attribute [local go_sem] rob decide_false decide_true Bool.true_or Bool.not_true Bool.false_eq_true Bool.true_eq_false true_and and_true in
theorem next_out (T : Tbl) (b : Nat) (l : List Tk) (i : Nat) (F : List (Nat × Ob)) (L : List Nat) (k : Int) (hl : l.length ≤ i) : AC Tryz.prog T 179 [.ptr b 2 0 0, .d (.int .i64 k)] (⟨rob b l i :: F, L⟩) (RD b F L l tkV (nextR l i k)) := by
 refine ⟨Tryz.call179, ACalls.enterS Tryz.func179 rfl Tryz.ntmps179 rfl fun hb => ?_⟩
 have hge : ((l.length : Int) ≤ (i : Int)) = True := by simp; omega
 simp only [go_sem, Tryz.results179]
 refine Zx (Zy ?_)
 intro b4
 first | intro fb4 | have fb4 := True.intro
 try simp only [freshL] at fb4
 refine Zs (Zd true [0, 1, 2, 3, 4, 5, 6, 7, 8, 9, 10, 11, 12, 13, 14, 15, 16, 17, 18, 19, 20, 21, 22, 23, 24] ?_)
 simp only [go_sem, hge, false_imp_iff, fb4]
 refine Zm 134217733 ?_
 refine Zc (fun hc0 => ?_) fun hc0 => ?_
 ·
  refine Zq fun K_ k_ => ?_
  refine Zy ?_
  refine ZA [b] [] (give_c T b l i _ _ _) ?_
  rintro _ _ ⟨rfl, rfl⟩
  intro _
  simp only [thenQ]
  refine endW_p [b4] [] [b] [] ?_
  rw [nextR, if_neg (by simp [nx, Nat.not_lt.2 hl])]
  exact ⟨rfl, by simp [go_sem, fb4]⟩
 exact absurd hc0 (by simp)
theorem snext_c (T : Tbl) (b : Nat) (l : List Tk) (i : Nat) (F : List (Nat × Ob)) (L : List Nat) (k : Int) (hn : i ≤ 4096) : AC Tryz.prog T 179 [.ptr b 2 0 0, .d (.int .i64 k)] ⟨rob b l i :: F, L⟩ (RD b F L l tkV (nextR l i k)) := by
 rcases Nat.lt_or_ge i l.length with h | h
 ·exact next_in T b l i F L k h hn
 ·exact next_out T b l i F L k h
end
section
def strsL (l : List Tk) (j : Nat) (acc : List Tx) : Rd (List Tx) :=
 if h : isT l j 5 [44] = true then (if nx l (j + 1) 4 = true then strsL l (j + 2) (acc ++ [(l.getD (j + 1) tk0).text]) else .err (j + 1) 3)
 else if isT l j 5 [93] = true then .ok acc (j + 1) else .err j 3
termination_by l.length - j
decreasing_by have := isT_lt h; omega
def strsR (l : List Tk) (i : Nat) : Rd (List Tx) :=
 if isT l i 5 [91] = true then (if nx l (i + 1) 4 = true then strsL l (i + 2) [(l.getD (i + 1) tk0).text] else .err (i + 1) 3)
 else if nx l i 4 = true then .ok [(l.getD i tk0).text] (i + 1) else .err i 3
theorem sl_t {l : List Tk} {j : Nat} {acc : List Tx} (h : isT l j 5 [44] = true) (h2 : nx l (j + 1) 4 = true) : strsL l j acc = strsL l (j + 2) (acc ++ [(l.getD (j + 1) tk0).text]) := by rw [strsL, dif_pos h, if_pos h2]
theorem sl_e {l : List Tk} {j : Nat} {acc : List Tx} (h : isT l j 5 [44] = true) (h2 : nx l (j + 1) 4 = false) : strsL l j acc = .err (j + 1) 3 := by rw [strsL, dif_pos h, if_neg (by simp [h2])]
theorem sl_ok {l : List Tk} {j : Nat} {acc : List Tx} (h : isT l j 5 [44] = false) (h2 : isT l j 5 [93] = true) : strsL l j acc = .ok acc (j + 1) := by rw [strsL, dif_neg (by simp [h]), if_pos h2]
theorem sl_no {l : List Tk} {j : Nat} {acc : List Tx} (h : isT l j 5 [44] = false) (h2 : isT l j 5 [93] = false) : strsL l j acc = .err j 3 := by rw [strsL, dif_neg (by simp [h]), if_neg (by simp [h2])]
theorem sr_1 {l : List Tk} {i : Nat} (h : isT l i 5 [91] = false) (h2 : nx l i 4 = true) : strsR l i = .ok [(l.getD i tk0).text] (i + 1) := by rw [strsR, if_neg (by simp [h]), if_pos h2]
theorem sr_e {l : List Tk} {i : Nat} (h : isT l i 5 [91] = false) (h2 : nx l i 4 = false) : strsR l i = .err i 3 := by rw [strsR, if_neg (by simp [h]), if_neg (by simp [h2])]
theorem sr_l {l : List Tk} {i : Nat} (h : isT l i 5 [91] = true) (h2 : nx l (i + 1) 4 = true) : strsR l i = strsL l (i + 2) [(l.getD (i + 1) tk0).text] := by rw [strsR, if_pos h, if_pos h2]
theorem sr_x {l : List Tk} {i : Nat} (h : isT l i 5 [91] = true) (h2 : nx l (i + 1) 4 = false) : strsR l i = .err (i + 1) 3 := by rw [strsR, if_pos h, if_neg (by simp [h2])]
def txV : List Tx → AV := fun x => .d (.slc 1 (x.map strD))
theorem strsL_oof (l : List Tk) (j : Nat) (acc : List Tx) : strsL l j acc ≠ .oof := by
 rw [strsL]
 split
 ·rename_i h
  split
  ·have := isT_lt h
   exact strsL_oof l (j + 2) (acc ++ [(l.getD (j + 1) tk0).text])
  ·exact fun h => by cases h
 ·split <;> exact fun h => by cases h
termination_by l.length - j
theorem strsR_oof (l : List Tk) (i : Nat) : strsR l i ≠ .oof := by
 unfold strsR
 split
 ·split
  ·exact strsL_oof l _ _
  ·exact fun h => by cases h
 ·split <;> exact fun h => by cases h
theorem strsL_le (l : List Tk) (j j2 : Nat) (acc x : List Tx) (h : strsL l j acc = .ok x j2) : j < j2 ∧ j2 ≤ l.length ∧ x.length ≤ acc.length + (j2 - j) := by
 rw [strsL] at h
 split at h
 ·rename_i h1
  have hj := isT_lt h1
  split at h
  ·have := strsL_le l (j + 2) j2 _ x h
   simp at this
   omega
  ·cases h
 ·split at h
  ·rename_i h1
   have hj := isT_lt h1
   injection h with h2 h3
   subst h2
   omega
  ·cases h
termination_by l.length - j
theorem strsR_le (l : List Tk) (i j : Nat) (x : List Tx) (h : strsR l i = .ok x j) : i < j ∧ j ≤ l.length ∧ x.length ≤ j - i := by
 unfold strsR at h
 split at h
 ·split at h
  ·have := strsL_le l (i + 2) j _ x h
   simp at this
   omega
  ·cases h
 ·split at h
  ·rename_i h1
   have hj := nx_lt h1
   injection h with h2 h3
   subst h2
   simp
   omega
  ·cases h
attribute [local go_sem] rob tcast tkV tkA Bool.false_eq_true in
theorem slist_c (T : Tbl) (b : Nat) (l : List Tk) (i : Nat) (F : List (Nat × Ob)) (L : List Nat) (hl : l.length ≤ 400) (hi : i ≤ l.length) : AC Tryz.prog T 178 [.ptr b 2 0 0] (⟨rob b l i :: F, L⟩) (RD b F L l txV (strsR l i)) := by
 refine ⟨Tryz.call178, ACalls.enterS Tryz.func178 rfl Tryz.ntmps178 rfl fun hb => ?_⟩
 simp only [go_sem, Tryz.results178]
 refine Zp 1 ?_
 refine Zs (Zx (Zy ?_))
 refine DW.acp [b] [] rfl rfl rfl rfl (by (try simp only [go_sem]) <;> rfl) rfl (eat_c T b l (i) _ _ [91] (by omega)) ?_
 rintro _ _ ⟨rfl, rfl⟩
 refine Zy ?_
 refine Zc (fun hc0 => ?_) fun hc0 => ?_
 ·
  refine AWp.cut 3 fun K_ hK_ => ?_
  simp only [List.take_succ_cons, List.take_zero, List.drop_succ_cons, List.drop_zero]
  simp only [go_sem, hc0, if_false, eq_self, if_true]
  refine DW.acp [b] [] rfl rfl rfl rfl (by (try simp only [go_sem, eq_self, if_true]) <;> rfl) rfl (snext_c T b l (i) _ _ 4 (by omega)) ?_
  rintro _ _ hR
  rcases hR.cs (nextR_oof _ _ _) with ⟨j1, e1, hr1, rfl, rfl⟩ | ⟨tk, j1, hr1, rfl, rfl⟩
  ·
   intro _
   refine endW_p [] [] [b] [] ?_
   obtain ⟨q1, rfl, rfl⟩ := nextR_er hr1
   rw [sr_e hc0 q1]
   exact ⟨rfl, by first | rfl | (simp only [go_sem, eq_self, if_true]; done) | (simp only [go_sem, hc0, if_false, eq_self, if_true]; rfl)⟩
  obtain ⟨q1, rfl, rfl⟩ := nextR_ok hr1
  simp only [go_sem, if_false, eq_self, if_true]
  refine DW.bsO (he := by first | rfl | kernel_rfl) rfl rfl (show slI Tryz.prog 31 = some (9, 1, 16) by simp only [go_sem]) (by (try simp only [go_sem, if_false, eq_self, if_true]) <;> rfl) rfl (by decide) fun t1 ft1 => ?_
  try simp only [freshT] at ft1
  simp only [go_sem, if_false, eq_self, if_true]
  refine hK_ _ _ ?_
  refine Zm 2 ?_
  refine AWp.ret ?_
  simp only [thenQ]
  apply endW_r [] [t1] [b] [] (by (try simp only [go_sem, if_false, eq_self, if_true]) <;> rfl)
  · rw [sr_1 hc0 q1]
    exact ⟨rfl, by first | rfl | (simp only [go_sem, eq_self, if_true]; done) | (simp only [go_sem, hc0, if_false, eq_self, if_true, ft1]; rfl)⟩
  · simp [LeA, txV, strD]
 refine Zk ?_
 refine AWp.cut 3 fun K_ hK_ => ?_
 simp only [List.take_succ_cons, List.take_zero, List.drop_succ_cons, List.drop_zero]
 simp only [go_sem, hc0, if_false, eq_self, if_true]
 refine DW.acp [b] [] rfl rfl rfl rfl (by (try simp only [go_sem, eq_self, if_true]) <;> rfl) rfl (snext_c T b l (i + 1) _ _ 4 (by omega)) ?_
 rintro _ _ hR
 rcases hR.cs (nextR_oof _ _ _) with ⟨j1, e1, hr1, rfl, rfl⟩ | ⟨tk, j1, hr1, rfl, rfl⟩
 ·
  intro _
  refine endW_p [] [] [b] [] ?_
  obtain ⟨q1, rfl, rfl⟩ := nextR_er hr1
  rw [sr_x hc0 q1]
  exact ⟨rfl, by first | rfl | (simp only [go_sem, eq_self, if_true]; done) | (simp only [go_sem, hc0, if_false, eq_self, if_true]; rfl)⟩
 obtain ⟨q1, rfl, rfl⟩ := nextR_ok hr1
 simp only [go_sem, if_false, eq_self, if_true]
 refine DW.bsO (he := by first | rfl | kernel_rfl) rfl rfl (show slI Tryz.prog 31 = some (9, 1, 16) by simp only [go_sem]) (by (try simp only [go_sem, if_false, eq_self, if_true]) <;> rfl) rfl (by decide) fun t2 ft2 => ?_
 try simp only [freshT] at ft2
 simp only [go_sem, if_false, eq_self, if_true]
 refine hK_ _ _ ?_
 refine Zm 3 ?_
 refine Zs (AWp.block (Zy ?_))
 refine Zl 1 2 (fun n lc hc => ∃ (j w : Nat) (acc : List Tx), n = l.length - j ∧ EqS lc [(3, .own w 1 (acc.map strD))] ∧ EqS hc (⟨rob b l j :: F, w :: L⟩) ∧ (j ≤ l.length) ∧ (acc.length ≤ j) ∧ (strsR l i = strsL l j acc) ∧ (freshT w L)) ?_ ?_
 · refine ⟨_, (i + 2), t2, [(l.getD (i + 1) tk0).text], rfl, ZE, ZE, ?_, ?_, ?_, ?_⟩
   all_goals (first | (have := nx_lt q1; omega) | (simp; omega) | exact sr_l hc0 q1 | exact ft2 | simp)
 rintro _ _ _ ⟨j, w, acc, rfl, ⟨rfl⟩, ⟨rfl⟩, h1, h2, h3, h4⟩
 refine Zy ?_
 refine Zs (Zx ?_)
 simp only [go_sem, if_false, eq_self, if_true]
 refine DW.acp [b] [] rfl rfl rfl rfl (by (try simp only [go_sem, eq_self, if_true]) <;> rfl) rfl (eat_c T b l (j) _ _ [44] (by omega)) ?_
 rintro _ _ ⟨rfl, rfl⟩
 simp only [go_sem, if_false]
 refine Zc (fun hc1 => ?_) fun hc1 => ?_
 ·
  refine Zk ?_
  refine AWp.block (Zq fun K_ k_ => ?_)
  simp only [go_sem, if_false, eq_self, if_true, hc1, if_false, eq_self, if_true]
  refine DW.acp [b] [] rfl rfl rfl rfl (by (try simp only [go_sem, eq_self, if_true, eq_self, if_true]) <;> rfl) rfl (snext_c T b l (j + 1) _ _ 4 (by omega)) ?_
  rintro _ _ hR
  rcases hR.cs (nextR_oof _ _ _) with ⟨j1, e1, hr1, rfl, rfl⟩ | ⟨tk, j1, hr1, rfl, rfl⟩
  ·
   intro _
   simp only [thenQ, blkQ]
   refine endW_p [] [w] [b] [] ?_
   obtain ⟨q1, rfl, rfl⟩ := nextR_er hr1
   rw [h3, sl_e hc1 q1]
   exact ⟨rfl, by first | rfl | (simp only [go_sem, eq_self, if_true, eq_self, if_true]; done) | (simp only [go_sem, hc0, if_false, eq_self, if_true, ft2, hc1, if_false, eq_self, if_true]; rfl)⟩
  obtain ⟨q1, rfl, rfl⟩ := nextR_ok hr1
  simp only [go_sem, if_false, eq_self, if_true, if_false, eq_self, if_true]
  refine DW.app rfl rfl rfl rfl (show slI Tryz.prog 31 = some (9, 1, 16) by simp only [go_sem]) rfl rfl (by simp only [go_sem, eq_self, eq_self]) (by first | exact .inl rfl | exact .inr rfl) (by (try simp only [go_sem]); (try simp only [List.length_map, List.length_append, List.length_cons, List.length_nil]); omega) (by (try simp only [go_sem]); (try simp only [List.length_map, List.length_append, List.length_cons, List.length_nil]); omega) fun t3 ft3 => ?_
  try simp only [freshT] at ft3
  simp only [go_sem, if_false, eq_self, if_true, if_false, eq_self, if_true]
  refine k_ _ _ (blkQ_n (thenQ_n ?_))
  refine Ze 1 2 [] [] [b] [t3] (.e ⟨_, ?_, (j + 2), t3, (acc ++ [(l.getD (j + 1) tk0).text]), rfl, ?_, ZE, ?_, ?_, ?_, ?_⟩)
  · first | omega | (simp; omega) | (have := nx_lt q1; omega)
  · (try simp only [go_sem, if_false, eq_self, if_true, if_false, eq_self, if_true]) <;> first | exact ⟨rfl⟩ | (constructor; simp [strD]; done)
  · have := nx_lt q1; omega
  · simp; omega
  · rw [h3, sl_t hc1 q1]
  · first | exact ft3 | exact ft3.2
 refine AWp.exit (thenQ_e (thenQ_e (blkQ_e (thenQ_n ?_))))
 refine Zx ?_
 simp only [go_sem, if_false, eq_self, if_true, hc1, if_false, eq_self, if_true]
 refine DW.acp [b] [] rfl rfl rfl rfl (by (try simp only [go_sem, eq_self, if_true, eq_self, if_true]) <;> rfl) rfl (smust_c T b l j _ _ [93] (by omega)) ?_
 rintro _ _ hR
 rcases hR.cs (mustR_oof _ _ _) with ⟨j1, e1, hr1, rfl, rfl⟩ | ⟨u1, j1, hr1, rfl, rfl⟩
 ·
  intro _
  refine endW_p [] [w] [b] [] ?_
  obtain ⟨q1, rfl, rfl⟩ := mustR_er hr1
  rw [h3, sl_no hc1 q1]
  exact ⟨rfl, by first | rfl | (simp only [go_sem, eq_self, if_true, eq_self, if_true]; done) | (simp only [go_sem, hc0, if_false, eq_self, if_true, ft2, hc1, if_false, eq_self, if_true]; rfl)⟩
 obtain ⟨q1, rfl⟩ := mustR_ok hr1
 simp only [go_sem, if_false, if_false]
 refine Zm 2 ?_
 refine Zp 1 ?_
 refine AWp.ret ?_
 apply endW_r [] [w] [b] [] (by (try simp only [go_sem, if_false, eq_self, if_true, if_false, eq_self, if_true]) <;> rfl)
 · rw [h3, sl_ok hc1 q1]
   exact ⟨rfl, by first | rfl | (simp only [go_sem, eq_self, if_true, eq_self, if_true]; done) | (simp only [go_sem, hc0, if_false, eq_self, if_true, ft2, hc1, if_false, eq_self, if_true]; rfl)⟩
 · simp [LeA, txV]
end
section
def ixS : List Tx → Tx → Int
 | [], _ => -1
 | x :: r, t => if t = x then 0 else if ixS r t < 0 then -1 else ixS r t + 1
theorem ixS_ge : ∀ (l : List Tx) (t : Tx), -1 ≤ ixS l t
 | [], _ => by simp [ixS]
 | x :: r, t => by have := ixS_ge r t; unfold ixS; split; omega; split <;> omega
theorem ixS_lt : ∀ (l : List Tx) (t : Tx), ixS l t < l.length
 | [], _ => by simp [ixS]
 | x :: r, t => by have := ixS_lt r t; unfold ixS; rw [List.length_cons]; split; omega; split <;> omega
def ixR (l : List Tx) (t : Tx) (k : Nat) : Prop := ixS l t = if ixS (l.drop k) t < 0 then -1 else ixS (l.drop k) t + k
theorem ixR_0 (l : List Tx) (t : Tx) : ixR l t 0 := by
 have := ixS_ge l t
 unfold ixR; rw [List.drop_zero]; split <;> omega
theorem ixR_t {l : List Tx} {t : Tx} {k : Nat} (h : k < l.length) (hR : ixR l t k) (he : t = l[k]'h) : ixS l t = k := by
 unfold ixR at hR
 rw [List.drop_eq_getElem_cons h, ixS, if_pos he] at hR
 rw [hR]; simp
theorem ixR_f {l : List Tx} {t : Tx} {k : Nat} (h : k < l.length) (hR : ixR l t k) (he : ¬ t = l[k]'h) : ixR l t (k + 1) := by
 unfold ixR at hR ⊢
 rw [List.drop_eq_getElem_cons h, ixS, if_neg he] at hR
 have := ixS_ge (l.drop (k + 1)) t
 rw [hR]
 split <;> split <;> omega
theorem ixR_end {l : List Tx} {t : Tx} {k : Nat} (h : l.length ≤ k) (hR : ixR l t k) : ixS l t = -1 := by
 unfold ixR at hR
 rw [List.drop_eq_nil_of_le h] at hR
 simpa [ixS] using hR
theorem strs_get (l : List Tx) (i : Nat) (d : List D) (h : i < l.length) : (l.map strD).getD i d = strD (l[i]'h) := by simp [List.getD, h]
attribute [local go_sem] tcast strD in
theorem IndexS_c (T : Tbl) (l : List Tx) (t : Tx) (hl : l.length ≤ 1000) : PC Tryz.prog T 114 [.d (.slc 1 (l.map strD)), .d (.str t)] (.d (.int .i64 (ixS l t))) := by
 refine ⟨Tryz.call114, PCall.enterS Tryz.func114 rfl Tryz.ntmps114 rfl fun hb => ?_⟩
 simp only [go_sem, Tryz.results114]
 refine Zp 3 ?_
 refine Zs (Zp 27 ?_)
 refine AWp.block (Zy ?_)
 refine Zl 7 8 (fun n lc hc => ∃ (k : Nat), n = l.length - k ∧ EqS lc [(8, .d (.int .i64 k))] ∧ EqS hc (⟨[], []⟩) ∧ (k ≤ l.length) ∧ (ixR l t k)) ?_ ?_
 · refine ⟨_, 0, rfl, ZE, ZE, ?_, ?_⟩
   all_goals (first | omega | exact ixR_0 _ _)
 rintro _ _ _ ⟨k, rfl, ⟨rfl⟩, ⟨rfl⟩, h1, h2⟩
 refine Zy ?_
 refine Zp 31 ?_
 refine Zs (Zc (fun hc0 => ?_) fun hc0 => ?_)
 ·
  have hlt : k < l.length := by omega
  have hki : (k : Int) < (l.length : Int) := by omega
  have zf1 := fun d0_ => strs_get l k d0_ hlt
  refine Zk ?_
  refine Zs (AWp.block (Zp 31 ?_))
  refine Zp 1055 ?_
  refine Zc (fun hc1 => ?_) fun hc1 => ?_
  ·
   refine Zp 4 ?_
   refine AWp.ret ?_
   simp only [go_sem]
   rw [ixR_t hlt h2 hc1]
  refine AWp.skip (blkQ_n (thenQ_n ?_))
  refine Zr (thenQ_n ?_)
  refine Zf 11 16 (.e ⟨_, ZM, k + 1, rfl, ZE, ZE, ?_, ?_⟩)
  · omega
  · exact ixR_f hlt h2 hc1
 refine AWp.exit (thenQ_e (thenQ_e (blkQ_e (thenQ_n ?_))))
 refine Zm 0 ?_
 refine Zp 1 ?_
 refine AWp.ret ?_
 simp only [go_sem]
 rw [ixR_end (by omega) h2]
def wordR (l : List Tk) (i : Nat) (tab : List Tx) : Rd Int := if nx l i 1 = true ∧ 0 < ixS tab (l.getD i tk0).text then .ok (ixS tab (l.getD i tk0).text) (i + 1) else .err i 3
def intV : Int → AV := fun n => .d (.int .i64 n)
theorem wordR_oof (l : List Tk) (i : Nat) (tab : List Tx) : wordR l i tab ≠ .oof := by unfold wordR; split <;> exact fun h => by cases h
theorem wordR_ok {l : List Tk} {i j : Nat} {tab : List Tx} {n : Int} (h : wordR l i tab = .ok n j) : nx l i 1 = true ∧ 0 < n ∧ n = ixS tab (l.getD i tk0).text ∧ j = i + 1 := by
 unfold wordR at h
 split at h
 ·rename_i h1
  injection h with h2 h3
  exact ⟨h1.1, by rw [← h2]; exact h1.2, h2.symm, h3.symm⟩
 ·cases h
theorem wordR_er {l : List Tk} {i j : Nat} {tab : List Tx} {e : Int} (h : wordR l i tab = .err j e) : ¬ (nx l i 1 = true ∧ 0 < ixS tab (l.getD i tk0).text) ∧ j = i ∧ e = 3 := by
 unfold wordR at h
 split at h
 ·cases h
 ·rename_i h1
  injection h with h2 h3
  exact ⟨h1, h2.symm, h3.symm⟩
attribute [local go_sem] rob tkD Int.toNat_natCast in
theorem word_in (T : Tbl) (b : Nat) (l : List Tk) (i : Nat) (F : List (Nat × Ob)) (L : List Nat) (tab : List Tx) (ht : tab.length ≤ 1000) (hl : i < l.length) (hn : i ≤ 4096) : AC Tryz.prog T 176 [.ptr b 2 0 0, .d (.slc 1 (tab.map strD))] (⟨rob b l i :: F, L⟩) (RD b F L l intV (wordR l i tab)) := by
 refine ⟨Tryz.call176, ACalls.enterS Tryz.func176 rfl Tryz.ntmps176 rfl fun hb => ?_⟩
 have hge : ((l.length : Int) ≤ (i : Int)) = False := by simp; omega
 have hlt : ((i : Int) < (l.length : Int)) = True := by simp; omega
 have hgd := tksD_gD l i [] hl
 have hge2 : l.getD i tk0 = l[i] := by simp [List.getD, List.getElem?_eq_getElem hl]
 have hsub : (i : Int) + 1 - 1 = (i : Int) := by omega
 simp only [go_sem, Tryz.results176]
 refine Zp 3 ?_
 refine Zs (Zd true [0, 1, 2, 3, 4, 5, 6, 7, 8, 9, 10, 11, 12, 13, 14, 15, 16, 17, 18, 19, 20, 21, 22, 23] ?_)
 simp only [go_sem, hlt, hgd]
 refine Zm 33554435 ?_
 refine Zc (fun hc0 => ?_) fun hc0 => ?_
 ·
  have hk1 : nx l i 1 = true := by simp [nx, hl]; first | exact hc0 | exact hc0.2
  refine Zd true [0, 1, 2, 3, 4, 5, 6, 7, 8, 9, 10, 11, 12, 13] ?_
  simp only [go_sem, hlt, hgd]
  refine ZP (IndexS_c T tab _ ht) ?_
  refine Zy ?_
  refine Zm 5 ?_
  refine Zp 11 ?_
  refine Zc (fun hc1 => ?_) fun hc1 => ?_
  ·
   have hw : wordR l i tab = .ok (ixS tab (l.getD i tk0).text) (i + 1) := if_pos ⟨hk1, by rw [hge2]; exact hc1⟩
   refine Zp 2 ?_
   refine Zp 1 ?_
   refine AWp.ret ?_
   simp only [thenQ]
   apply endW_r [] [] [b] [] (by (try simp only [go_sem]) <;> rfl)
   · rw [hw]
     exact ⟨rfl, by first | rfl | (simp only [go_sem]; done) | (simp only [go_sem]; rfl)⟩
   · rw [hge2]; simp [LeA, LeD, intV]
  have hw : wordR l i tab = .err i 3 := if_neg (fun h => by have h2 := h.2; rw [hge2] at h2; omega)
  refine Zk ?_
  refine Zx (Zy ?_)
  refine ZA [b] [] (give_c T b l i _ _ _) ?_
  rintro _ _ ⟨rfl, rfl⟩
  intro _
  refine endW_p [] [] [b] [] ?_
  rw [hw]
  exact ⟨rfl, by first | rfl | (simp only [go_sem]; done) | (simp only [go_sem, hge, hlt, hgd, hsub]; rfl)⟩
 have hw : wordR l i tab = .err i 3 := if_neg (fun h => by have h2 := h.1; simp [nx, hl] at h2; first | exact hc0 h2 | (rcases hc0 with h3 | h3; exact h3.elim; exact h3 h2) | (simp [h2] at hc0))
 refine Zk ?_
 refine Zx (Zy ?_)
 refine ZA [b] [] (give_c T b l i _ _ _) ?_
 rintro _ _ ⟨rfl, rfl⟩
 intro _
 refine endW_p [] [] [b] [] ?_
 rw [hw]
 exact ⟨rfl, by first | rfl | (simp only [go_sem]; done) | (simp only [go_sem, hge, hlt, hgd, hsub]; rfl)⟩
attribute [local go_sem] rob decide_false Bool.false_and Bool.false_eq_true true_and and_true in
theorem word_out (T : Tbl) (b : Nat) (l : List Tk) (i : Nat) (F : List (Nat × Ob)) (L : List Nat) (tab : List Tx) (hl : l.length ≤ i) : AC Tryz.prog T 176 [.ptr b 2 0 0, .d (.slc 1 (tab.map strD))] (⟨rob b l i :: F, L⟩) (RD b F L l intV (wordR l i tab)) := by
 refine ⟨Tryz.call176, ACalls.enterS Tryz.func176 rfl Tryz.ntmps176 rfl fun hb => ?_⟩
 have hlt : ((i : Int) < (l.length : Int)) = False := by simp; omega
 have hw : wordR l i tab = .err i 3 := if_neg (fun h => by have := nx_lt h.1; omega)
 simp only [go_sem, Tryz.results176]
 refine Zp 3 ?_
 refine Zs (Zd true [0, 1, 2, 3, 4, 5, 6, 7, 8, 9, 10, 11, 12, 13, 14, 15, 16, 17, 18, 19, 20, 21, 22, 23] ?_)
 simp only [go_sem, hlt, false_imp_iff]
 refine Zm 33554435 ?_
 refine Zc (fun hc0 => ?_) fun hc0 => ?_
 ·
  exact absurd hc0 (by simp)
 refine Zk ?_
 refine Zx (Zy ?_)
 refine ZA [b] [] (give_c T b l i _ _ _) ?_
 rintro _ _ ⟨rfl, rfl⟩
 intro _
 refine endW_p [] [] [b] [] ?_
 rw [hw]
 exact ⟨rfl, by first | rfl | (simp only [go_sem]; done) | (simp only [go_sem, hlt, false_imp_iff]; rfl)⟩
theorem word_c (T : Tbl) (b : Nat) (l : List Tk) (i : Nat) (F : List (Nat × Ob)) (L : List Nat) (tab : List Tx) (ht : tab.length ≤ 1000) (hn : i ≤ 4096) : AC Tryz.prog T 176 [.ptr b 2 0 0, .d (.slc 1 (tab.map strD))] ⟨rob b l i :: F, L⟩ (RD b F L l intV (wordR l i tab)) := by
 rcases Nat.lt_or_ge i l.length with h | h
 ·exact word_in T b l i F L tab ht h hn
 ·exact word_out T b l i F L tab h
end
section
theorem bneL {a b : Nat} (h : a ≠ b) : (a == b) = false := by simpa using h
theorem bneR {a b : Nat} (h : a ≠ b) : (b == a) = false := by simpa using Ne.symm h
def scmT : List Tx := [[], [114, 101, 113, 117, 105, 114, 101], [105, 102], [107, 101, 101, 112], [100, 105, 115, 99, 97, 114, 100], [102, 105, 108, 101, 105, 110, 116, 111], [114, 101, 100, 105, 114, 101, 99, 116], [114, 101, 106, 101, 99, 116], [115, 101, 116, 102, 108, 97, 103], [97, 100, 100, 102, 108, 97, 103], [115, 116, 111, 112]]
def tsT : List Tx := [[], [116, 114, 117, 101], [102, 97, 108, 115, 101], [110, 111, 116], [97, 108, 108, 111, 102], [97, 110, 121, 111, 102], [104, 101, 97, 100, 101, 114], [97, 100, 100, 114, 101, 115, 115], [101, 110, 118, 101, 108, 111, 112, 101], [101, 120, 105, 115, 116, 115], [115, 105, 122, 101]]
def mtT : List Tx := [[], [105, 115], [99, 111, 110, 116, 97, 105, 110, 115], [109, 97, 116, 99, 104, 101, 115]]
def ptT : List Tx := [[], [97, 108, 108], [108, 111, 99, 97, 108, 112, 97, 114, 116], [100, 111, 109, 97, 105, 110]]
structure ScT (T : Tbl) : Prop where
 cm : T 1 = scmT.map D.str
 ts : T 4 = tsT.map D.str
 mt : T 6 = mtT.map D.str
 pt : T 5 = ptT.map D.str
theorem mapS (l : List Tx) : (l.map D.str).map (fun x => [x]) = l.map strD := by rw [List.map_map]; rfl
def tagS (l : List Tk) (k : Int) (i : Nat) (m p : Int) : Rd (Int × Int) :=
 if h : nx l i 2 = true then
  (if 0 < ixS mtT (l.getD i tk0).text ∧ m = 0 then tagS l k (i + 1) (ixS mtT (l.getD i tk0).text) p
  else if (0 < ixS ptT (l.getD i tk0).text ∧ p = 0) ∧ ¬ k = 6 then tagS l k (i + 1) m (ixS ptT (l.getD i tk0).text)
  else .err i 3)
 else .ok (if m = 0 then 1 else m, if p = 0 ∧ ¬ k = 6 then 1 else p) i
termination_by l.length - i
decreasing_by all_goals (have := nx_lt h; omega)
theorem tg_m {l : List Tk} {k m p : Int} {i : Nat} (h : nx l i 2 = true) (h1 : 0 < ixS mtT (l.getD i tk0).text ∧ m = 0) : tagS l k i m p = tagS l k (i + 1) (ixS mtT (l.getD i tk0).text) p := by rw [tagS, dif_pos h, if_pos h1]
theorem tg_p {l : List Tk} {k m p : Int} {i : Nat} (h : nx l i 2 = true) (h1 : ¬ (0 < ixS mtT (l.getD i tk0).text ∧ m = 0)) (h2 : (0 < ixS ptT (l.getD i tk0).text ∧ p = 0) ∧ ¬ k = 6) : tagS l k i m p = tagS l k (i + 1) m (ixS ptT (l.getD i tk0).text) := by rw [tagS, dif_pos h, if_neg h1, if_pos h2]
theorem tg_e {l : List Tk} {k m p : Int} {i : Nat} (h : nx l i 2 = true) (h1 : ¬ (0 < ixS mtT (l.getD i tk0).text ∧ m = 0)) (h2 : ¬ ((0 < ixS ptT (l.getD i tk0).text ∧ p = 0) ∧ ¬ k = 6)) : tagS l k i m p = .err i 3 := by rw [tagS, dif_pos h, if_neg h1, if_neg h2]
theorem tg_0 {l : List Tk} {k m p : Int} {i : Nat} (h : nx l i 2 = false) : tagS l k i m p = .ok (if m = 0 then 1 else m, if p = 0 ∧ ¬ k = 6 then 1 else p) i := by rw [tagS, dif_neg (by simp [h])]
def tob (t : Nat) (k m p : Int) : Nat × Ob := (t, ⟨8, 1, [[.d (.int .i64 k), .d (.int .i64 m), .d (.int .i64 p), .nils, .nils, .d (.bool false), .d (.int .i64 0), .nils]]⟩)
attribute [go_sem] tob
def TG (b t : Nat) (F : List (Nat × Ob)) (L : List Nat) (l : List Tk) (k : Int) : Rd (Int × Int) → AR → AH → Prop
 | .ok a i, x, h => x = .ret (.tup []) ∧ h = ⟨rob b l i :: tob t k a.1 a.2 :: F, L⟩
 | .err i e, x, h => x = .pan (.ifc 174 (.agg [.d (.int .i64 i), .d (.int .i64 (gv l i e))])) ∧ ∃ m p, h = ⟨rob b l i :: tob t k m p :: F, L⟩
 | .oof, _, _ => True
attribute [local go_sem] rob tob tcast tkD decide_false Bool.false_and Bool.false_eq_true true_and and_true in
theorem tags_c (T : Tbl) (hS : ScT T) (b t : Nat) (l : List Tk) (i : Nat) (k m p : Int) (F : List (Nat × Ob)) (L : List Nat) (hl : l.length ≤ 400) (hi : i ≤ l.length) : AC Tryz.prog T 272 [.ptr b 2 0 0, .ptr t 8 0 0] (⟨rob b l i :: tob t k m p :: F, L⟩) (TG b t F L l k (tagS l k i m p)) := by
 refine ⟨Tryz.call272, ACalls.enterS Tryz.func272 rfl Tryz.ntmps272 rfl fun hb => ?_⟩
 refine AWp.nd fun hnd => ?_
 have hbt : b ≠ t := fun e => by subst e; simp [rob, tob] at hnd
 clear hnd
 have zf1 := bneL hbt
 have zf2 := bneR hbt
 simp only [go_sem, Tryz.results272]
 refine Zs (AWp.block (Zl 3 0 (fun n lc hc => ∃ (j : Nat) (m2 p2 : Int), n = l.length - j ∧ EqS lc [] ∧ EqS hc (⟨rob b l j :: tob t k m2 p2 :: F, L⟩) ∧ (j ≤ l.length) ∧ (tagS l k i m p = tagS l k j m2 p2)) ?_ ?_))
 · refine ⟨_, i, m, p, rfl, ZE, ZE, ?_, ?_⟩
   all_goals (first | omega | rfl)
 rintro _ _ _ ⟨j, m2, p2, rfl, ⟨rfl⟩, ⟨rfl⟩, h1, h3⟩
 refine Zy ?_
 refine Zs ?_
 rcases Nat.lt_or_ge j l.length with hl2 | hl2
 ·
  have hlt : ((j : Int) < (l.length : Int)) = True := by simp; omega
  have hgd := tksD_gD l j [] hl2
  have hge2 : l.getD j tk0 = l[j] := by simp [List.getD, List.getElem?_eq_getElem hl2]
  refine Zd true [0, 1, 2, 3, 4, 5, 6, 7, 8, 9, 10, 11, 12, 13, 14, 15, 16, 17, 18, 19, 20, 21, 22, 23] ?_
  simp only [go_sem, zf2, hlt, hgd]
  refine Zm 33554435 ?_
  refine Zc (fun hc0 => ?_) fun hc0 => ?_
  ·
   have hx2 : nx l j 2 = true := by simp [nx, hl2]; first | exact hc0 | exact hc0.2
   refine Zk ?_
   refine AWp.block (Zd true [0, 1, 2, 3, 4, 5, 6, 7, 8, 9, 10, 11] ?_)
   simp only [go_sem, zf2, hlt, hgd]
   refine Zm 7 ?_
   refine AWp.dsD true [0, 3, 1, 4, 2, 5, 6, 7] rfl (by kernel_rfl) fun K_ hK_ => ?_
   refine Zy ?_
   refine DW.sliceG (n := 4) (e := 9) rfl rfl rfl (by first | rfl | kernel_rfl) (by first | rfl | kernel_rfl) (by rw [hS.mt]; rfl) (by decide) (by decide) ?_
   refine Zy ?_
   refine DW.sliceG (n := 4) (e := 9) rfl rfl rfl (by first | rfl | kernel_rfl) (by first | rfl | kernel_rfl) (by rw [hS.pt]; rfl) (by decide) (by decide) ?_
   rw [hS.mt, hS.pt, mapS, mapS]
   refine lvc_ok _ _ _ ?_
   refine Zy ?_
   refine DW.pcr rfl rfl rfl rfl (IndexS_c T mtT _ (by decide)) rfl rfl ?_
   refine Zy ?_
   refine DW.pcr rfl rfl rfl rfl (IndexS_c T ptT _ (by decide)) rfl rfl ?_
   refine Zy ?_
   refine hK_ _ _ ?_
   refine Zm 27 ?_
   refine Zs (AWp.block (Zp 31 ?_))
   refine Zc (fun hc1 => ?_) fun hc1 => ?_
   ·
    have hcm : 0 < ixS mtT (l.getD j tk0).text ∧ m2 = 0 := by rw [hge2]; exact hc1
    refine Zr (blkQ_n (thenQ_n ?_))
    refine Zm 3 ?_
    refine Zr (blkQ_n (thenQ_n ?_))
    refine Ze 3 0 [] [] [b, t] [] (.e ⟨_, ZM, (j + 1), (ixS mtT (l[j]'hl2).text), p2, rfl, ZE, ZE, ?_, ?_⟩)
    · omega
    · rw [h3, tg_m hx2 hcm, hge2]
   have hcm : ¬ (0 < ixS mtT (l.getD j tk0).text ∧ m2 = 0) := by rw [hge2]; omega
   refine Zp 43 ?_
   refine Zc (fun hc2 => ?_) fun hc2 => ?_
   ·
    have hcp : (0 < ixS ptT (l.getD j tk0).text ∧ p2 = 0) ∧ ¬ k = 6 := by rw [hge2]; exact hc2
    refine Zr (blkQ_n (thenQ_n ?_))
    refine Zm 3 ?_
    refine Zr (blkQ_n (thenQ_n ?_))
    refine Ze 3 0 [] [] [b, t] [] (.e ⟨_, ZM, (j + 1), m2, (ixS ptT (l[j]'hl2).text), rfl, ZE, ZE, ?_, ?_⟩)
    · omega
    · rw [h3, tg_p hx2 hcm hcp, hge2]
   have hcp : ¬ ((0 < ixS ptT (l.getD j tk0).text ∧ p2 = 0) ∧ ¬ k = 6) := by rw [hge2]; omega
   refine Zq fun K_ k_ => ?_
   refine Zy ?_
   refine DW.acp [b] [] rfl rfl rfl rfl (by (try simp only [go_sem, zf2]) <;> rfl) rfl (give_c T b l j _ _ _) ?_
   rintro _ _ ⟨rfl, rfl⟩
   intro _
   simp only [thenQ, blkQ]
   refine endW_p [] [] [b, t] [] ?_
   rw [h3, tg_e hx2 hcm hcp]
   exact ⟨rfl, m2, p2, by first | rfl | (simp only [go_sem, zf1, zf2]; done) | (simp only [go_sem, zf1, zf2, hlt, hgd]; rfl)⟩
  have hx2 : nx l j 2 = false := by first | exact hx2 | (simp only [nx, hge2, Bool.and_eq_false_iff, decide_eq_false_iff_not]; rcases hc0 with h9 | h9; exact absurd trivial h9; exact .inr h9)
  refine AWp.exit (thenQ_e (thenQ_e (blkQ_e (thenQ_n ?_))))
  refine Zs (Zp 130 ?_)
  refine Zc (fun hc3 => ?_) fun hc3 => ?_
  ·
   refine Zr (thenQ_n ?_)
   refine Zm 1 ?_
   refine Zp 4097 ?_
   refine Zc (fun hc4 => ?_) fun hc4 => ?_
   ·
    refine Zr ?_
    apply endW_n [] [] [b, t] [] (by (try simp only [go_sem]) <;> rfl)
    · rw [h3, tg_0 hx2]
      refine ⟨rfl, ?_⟩
      simp [go_sem, rob, tob, bneL hbt, bneR hbt, hc3, hc4]
    · simp [LeA, LeL]
   have r2 : ¬ (p2 = 0 ∧ ¬ k = 6) := by omega
   refine AWp.skip ?_
   apply endW_n [] [] [b, t] [] (by (try simp only [go_sem]) <;> rfl)
   · rw [h3, tg_0 hx2]
     refine ⟨rfl, ?_⟩
     simp [go_sem, rob, tob, bneL hbt, bneR hbt, hc3, r2]
   · simp [LeA, LeL]
  refine Zk ?_
  refine Zp 8193 ?_
  refine Zc (fun hc4 => ?_) fun hc4 => ?_
  ·
   refine Zr ?_
   apply endW_n [] [] [b, t] [] (by (try simp only [go_sem]) <;> rfl)
   · rw [h3, tg_0 hx2]
     refine ⟨rfl, ?_⟩
     simp [go_sem, rob, tob, bneL hbt, bneR hbt, hc3, hc4]
   · simp [LeA, LeL]
  have r2 : ¬ (p2 = 0 ∧ ¬ k = 6) := by omega
  refine AWp.skip ?_
  apply endW_n [] [] [b, t] [] (by (try simp only [go_sem]) <;> rfl)
  · rw [h3, tg_0 hx2]
    refine ⟨rfl, ?_⟩
    simp [go_sem, rob, tob, bneL hbt, bneR hbt, hc3, r2]
  · simp [LeA, LeL]
 have hlt : ((j : Int) < (l.length : Int)) = False := by simp; omega
 have hx2 : nx l j 2 = false := by simp [nx, Nat.not_lt.2 hl2]
 refine Zd true [0, 1, 2, 3, 4, 5, 6, 7, 8, 9, 10, 11, 12, 13, 14, 15, 16, 17, 18, 19, 20, 21, 22, 23] ?_
 simp only [go_sem, zf2, hlt, false_imp_iff]
 refine Zm 33554435 ?_
 refine Zc (fun hc0 => ?_) fun hc0 => ?_
 ·
  exact absurd hc0 (by first | (simp; done) | omega | (simp [*]; done))
 have hx2 : nx l j 2 = false := by first | exact hx2 | (simp only [nx, hge2, Bool.and_eq_false_iff, decide_eq_false_iff_not]; rcases hc0 with h9 | h9; exact absurd trivial h9; exact .inr h9)
 refine AWp.exit (thenQ_e (thenQ_e (blkQ_e (thenQ_n ?_))))
 refine Zs (Zp 130 ?_)
 refine Zc (fun hc3 => ?_) fun hc3 => ?_
 ·
  refine Zr (thenQ_n ?_)
  refine Zm 1 ?_
  refine Zp 4097 ?_
  refine Zc (fun hc4 => ?_) fun hc4 => ?_
  ·
   refine Zr ?_
   apply endW_n [] [] [b, t] [] (by (try simp only [go_sem]) <;> rfl)
   · rw [h3, tg_0 hx2]
     refine ⟨rfl, ?_⟩
     simp [go_sem, rob, tob, bneL hbt, bneR hbt, hc3, hc4]
   · simp [LeA, LeL]
  have r2 : ¬ (p2 = 0 ∧ ¬ k = 6) := by omega
  refine AWp.skip ?_
  apply endW_n [] [] [b, t] [] (by (try simp only [go_sem]) <;> rfl)
  · rw [h3, tg_0 hx2]
    refine ⟨rfl, ?_⟩
    simp [go_sem, rob, tob, bneL hbt, bneR hbt, hc3, r2]
  · simp [LeA, LeL]
 refine Zk ?_
 refine Zp 8193 ?_
 refine Zc (fun hc4 => ?_) fun hc4 => ?_
 ·
  refine Zr ?_
  apply endW_n [] [] [b, t] [] (by (try simp only [go_sem]) <;> rfl)
  · rw [h3, tg_0 hx2]
    refine ⟨rfl, ?_⟩
    simp [go_sem, rob, tob, bneL hbt, bneR hbt, hc3, hc4]
  · simp [LeA, LeL]
 have r2 : ¬ (p2 = 0 ∧ ¬ k = 6) := by omega
 refine AWp.skip ?_
 apply endW_n [] [] [b, t] [] (by (try simp only [go_sem]) <;> rfl)
 · rw [h3, tg_0 hx2]
   refine ⟨rfl, ?_⟩
   simp [go_sem, rob, tob, bneL hbt, bneR hbt, hc3, r2]
 · simp [LeA, LeL]
end
section
open Go.RowKit
def Rd.bind {α β : Type} (r : Rd α) (f : α → Nat → Rd β) : Rd β := match r with
 | .ok a i => f a i
 | .err i e => .err i e
 | .oof => .oof
theorem Rd.bind_ok {α β : Type} {f : α → Nat → Rd β} {a : α} {i : Nat} : Rd.bind (.ok a i) f = f a i := rfl
theorem Rd.bind_er {α β : Type} {f : α → Nat → Rd β} {i : Nat} {e : Int} : Rd.bind (.err i e) f = .err i e := rfl
theorem Rd.bind_no {α β : Type} {r : Rd α} {f : α → Nat → Rd β} (h : r.bind f ≠ .oof) : r ≠ .oof := fun e => h (by rw [e]; rfl)
def overT : Tx := [111, 118, 101, 114]
def underT : Tx := [117, 110, 100, 101, 114]
mutual
def testR : Nat → List Tk → Nat → Nat → Rd Tst
 | 0, _, _, _ => .oof
 | n + 1, l, i, d =>
  if 6 < d ∧ i < l.length then .err i 1
  else (wordR l i tsT).bind fun k j =>
   if k = 3 then (testR n l j (d + 1)).bind fun x j2 => .ok (.mk 3 0 0 [] [] false 0 [x]) j2
   else if k = 4 ∨ k = 5 then (mustR l j [40]).bind fun _ j1 => (testR n l j1 (d + 1)).bind fun x j2 => testsR n l j2 d k [x]
   else if k = 6 ∨ k = 7 ∨ k = 8 then (tagS l k j 0 0).bind fun mp j1 => (strsR l j1).bind fun a j2 => (strsR l j2).bind fun c j3 => .ok (.mk k mp.1 mp.2 a c false 0 []) j3
   else if k = 9 then (strsR l j).bind fun a j1 => .ok (.mk 9 0 0 a [] false 0 []) j1
   else if k = 10 then (if isT l j 2 overT = true ∨ isT l j 2 underT = true then (nextR l (j + 1) 3).bind fun t j1 => .ok (.mk 10 0 0 [] [] (isT l j 2 overT) t.num []) j1 else .err j 3)
   else .ok (.mk k 0 0 [] [] false 0 []) j
def testsR : Nat → List Tk → Nat → Nat → Int → List Tst → Rd Tst
 | 0, _, _, _, _, _ => .oof
 | n + 1, l, j, d, k, acc =>
  if isT l j 5 [44] = true then (testR n l (j + 1) (d + 1)).bind fun x j2 => testsR n l j2 d k (acc ++ [x])
  else (mustR l j [41]).bind fun _ j1 => .ok (.mk k 0 0 [] [] false 0 acc) j1
end
def tstV : Tst → AV := fun t => .agg (tstA t)
section
variable {n i j d : Nat} {l : List Tk} {k : Int} {acc : List Tst}
theorem te_1 (h : 6 < d ∧ i < l.length) : testR (n + 1) l i d = .err i 1 := by rw [testR, if_pos h]
theorem te_w {e : Int} (h : ¬ (6 < d ∧ i < l.length)) (hw : wordR l i tsT = .err j e) : testR (n + 1) l i d = .err j e := by rw [testR, if_neg h, hw]; rfl
theorem te_3 (h : ¬ (6 < d ∧ i < l.length)) (hw : wordR l i tsT = .ok 3 j) : testR (n + 1) l i d = (testR n l j (d + 1)).bind fun x j2 => .ok (.mk 3 0 0 [] [] false 0 [x]) j2 := by rw [testR, if_neg h, hw, Rd.bind_ok, if_pos rfl]
theorem te_4 (h : ¬ (6 < d ∧ i < l.length)) (hw : wordR l i tsT = .ok k j) (hk : k = 4 ∨ k = 5) : testR (n + 1) l i d = (mustR l j [40]).bind fun _ j1 => (testR n l j1 (d + 1)).bind fun x j2 => testsR n l j2 d k [x] := by rw [testR, if_neg h, hw, Rd.bind_ok, if_neg (by omega), if_pos hk]
theorem te_6 (h : ¬ (6 < d ∧ i < l.length)) (hw : wordR l i tsT = .ok k j) (hk : k = 6 ∨ k = 7 ∨ k = 8) : testR (n + 1) l i d = (tagS l k j 0 0).bind fun mp j1 => (strsR l j1).bind fun a j2 => (strsR l j2).bind fun c j3 => .ok (.mk k mp.1 mp.2 a c false 0 []) j3 := by rw [testR, if_neg h, hw, Rd.bind_ok, if_neg (by omega), if_neg (by omega), if_pos hk]
theorem te_9 (h : ¬ (6 < d ∧ i < l.length)) (hw : wordR l i tsT = .ok 9 j) : testR (n + 1) l i d = (strsR l j).bind fun a j1 => .ok (.mk 9 0 0 a [] false 0 []) j1 := by rw [testR, if_neg h, hw, Rd.bind_ok, if_neg (by omega), if_neg (by omega), if_neg (by omega), if_pos rfl]
theorem te_s (h : ¬ (6 < d ∧ i < l.length)) (hw : wordR l i tsT = .ok 10 j) : testR (n + 1) l i d = if isT l j 2 overT = true ∨ isT l j 2 underT = true then (nextR l (j + 1) 3).bind fun t j1 => .ok (.mk 10 0 0 [] [] (isT l j 2 overT) t.num []) j1 else .err j 3 := by rw [testR, if_neg h, hw, Rd.bind_ok, if_neg (by omega), if_neg (by omega), if_neg (by omega), if_neg (by omega), if_pos rfl]
theorem te_n (h : ¬ (6 < d ∧ i < l.length)) (hw : wordR l i tsT = .ok k j) (hk : ¬ k = 3 ∧ ¬ (k = 4 ∨ k = 5) ∧ ¬ (k = 6 ∨ k = 7 ∨ k = 8) ∧ ¬ k = 9 ∧ ¬ k = 10) : testR (n + 1) l i d = .ok (.mk k 0 0 [] [] false 0 []) j := by rw [testR, if_neg h, hw, Rd.bind_ok, if_neg hk.1, if_neg hk.2.1, if_neg hk.2.2.1, if_neg hk.2.2.2.1, if_neg hk.2.2.2.2]
theorem ts_t (h : isT l j 5 [44] = true) : testsR (n + 1) l j d k acc = (testR n l (j + 1) (d + 1)).bind fun x j2 => testsR n l j2 d k (acc ++ [x]) := by rw [testsR, if_pos h]
theorem ts_f (h : isT l j 5 [44] = false) : testsR (n + 1) l j d k acc = (mustR l j [41]).bind fun _ j1 => .ok (.mk k 0 0 [] [] false 0 acc) j1 := by rw [testsR, if_neg (by simp [h])]
end
theorem tagS_le (l : List Tk) (k : Int) (i j : Nat) (m p : Int) (a : Int × Int) (h : tagS l k i m p = .ok a j) : i ≤ j ∧ (i ≤ l.length → j ≤ l.length) := by
 rw [tagS] at h
 split at h
 ·rename_i h1
  have hi := nx_lt h1
  split at h
  ·have := tagS_le l k (i + 1) j _ _ a h
   omega
  ·split at h
   ·have := tagS_le l k (i + 1) j _ _ a h
    omega
   ·cases h
 ·injection h with h2 h3
  omega
termination_by l.length - i
end
section
theorem AWp.larN {P : Program} {T : Tbl} {Q : AQ} {sl : List AV} {code : Code} {b b' i j k c n : Nat} {rows : List (List D)} {z : List D} {F : List (Nat × Ob)} {L : List Nat} {ob : Ob} {r : List AV} (hn : rows.length = n) (hg : getO b' F = some ob) (hr : ob.rows[i]? = some r) (hj : r[j]? = some (.lar b k rows c)) (hk : 0 < k) (hzl : z.length = k)
  (H : ∀ t, freshT t L → AWp P T code Q sl ⟨setO b' ⟨ob.k, ob.c, ob.rows.set i (r.set j (.own t k (rows ++ [z])))⟩ F, t :: L⟩) : AWp P T code Q sl ⟨(b, ⟨k, c, lrows n (z.map .d)⟩) :: F, L⟩ := by
 subst hn
 exact AWp.larH hg hr hj hk hzl H
theorem Rd.bind_inv {α β : Type} {r : Rd α} {f : α → Nat → Rd β} {y : β} {j : Nat} (h : r.bind f = .ok y j) : ∃ a i, r = .ok a i ∧ f a i = .ok y j := by
 cases r with
 | ok a i => exact ⟨a, i, rfl, h⟩
 | err i e => cases h
 | oof => cases h
theorem test_le : ∀ n, (∀ l i d x j, testR n l i d = .ok x j → i < j ∧ j ≤ l.length) ∧ (∀ l i d k acc x j, testsR n l i d k acc = .ok x j → i < j ∧ j ≤ l.length)
 | 0 => ⟨fun l i d x j h => (by rw [testR] at h; cases h), fun l i d k acc x j h => (by rw [testsR] at h; cases h)⟩
 | n + 1 => by
  obtain ⟨h1, h2⟩ := test_le n
  refine ⟨fun l i d x j h => ?_, fun l i d k acc x j h => ?_⟩
  ·rw [testR] at h
   split at h
   ·cases h
   obtain ⟨k, j0, hw, h⟩ := Rd.bind_inv h
   obtain ⟨w1, _, _, rfl⟩ := wordR_ok hw
   have wl := nx_lt w1
   split at h
   ·obtain ⟨a, j1, h3, h⟩ := Rd.bind_inv h
    have := h1 _ _ _ _ _ h3
    injection h with h4 h5
    omega
   split at h
   ·obtain ⟨a, j1, h3, h⟩ := Rd.bind_inv h
    obtain ⟨m1, rfl⟩ := mustR_ok h3
    have ml := isT_lt m1
    obtain ⟨a2, j2, h4, h⟩ := Rd.bind_inv h
    have := h1 _ _ _ _ _ h4
    have := h2 _ _ _ _ _ _ _ h
    omega
   split at h
   ·obtain ⟨a, j1, h3, h⟩ := Rd.bind_inv h
    have := tagS_le _ _ _ _ _ _ _ h3
    obtain ⟨a2, j2, h4, h⟩ := Rd.bind_inv h
    have := strsR_le _ _ _ _ h4
    obtain ⟨a3, j3, h5, h⟩ := Rd.bind_inv h
    have := strsR_le _ _ _ _ h5
    injection h with h6 h7
    omega
   split at h
   ·obtain ⟨a, j1, h3, h⟩ := Rd.bind_inv h
    have := strsR_le _ _ _ _ h3
    injection h with h6 h7
    omega
   split at h
   ·split at h
    ·obtain ⟨a, j1, h3, h⟩ := Rd.bind_inv h
     obtain ⟨n1, _, rfl⟩ := nextR_ok h3
     have := nx_lt n1
     injection h with h6 h7
     omega
    ·cases h
   ·injection h with h6 h7
    omega
  ·rw [testsR] at h
   split at h
   ·obtain ⟨a, j1, h3, h⟩ := Rd.bind_inv h
    have := h1 _ _ _ _ _ h3
    have := h2 _ _ _ _ _ _ _ h
    omega
   ·obtain ⟨a, j1, h3, h⟩ := Rd.bind_inv h
    obtain ⟨m1, rfl⟩ := mustR_ok h3
    have ml := isT_lt m1
    injection h with h4 h5
    omega
theorem tagS_oof (l : List Tk) (k : Int) (i : Nat) (m p : Int) : tagS l k i m p ≠ .oof := by
 rw [tagS]
 split
 ·rename_i h
  have := nx_lt h
  split
  ·exact tagS_oof l k (i + 1) _ _
  ·split
   ·exact tagS_oof l k (i + 1) _ _
   ·exact fun h => by cases h
 ·exact fun h => by cases h
termination_by l.length - i
theorem TG.cs {b t : Nat} {F : List (Nat × Ob)} {L : List Nat} {l : List Tk} {k : Int} {r : Rd (Int × Int)} {x : AR} {h : AH} (H : TG b t F L l k r x h) (hn : r ≠ .oof) :
  (∃ i e, r = .err i e ∧ x = .pan (.ifc 174 (.agg [.d (.int .i64 i), .d (.int .i64 (gv l i e))])) ∧ ∃ m p, h = ⟨rob b l i :: tob t k m p :: F, L⟩) ∨ (∃ a i, r = .ok a i ∧ x = .ret (.tup []) ∧ h = ⟨rob b l i :: tob t k a.1 a.2 :: F, L⟩) := by
 cases r with
 | ok a i => exact .inr ⟨a, i, rfl, H⟩
 | err i e => exact .inl ⟨i, e, rfl, H⟩
 | oof => exact absurd rfl hn
theorem over_e : ∀ (l : List Tk) (j : Nat), isT l j 2 overT = isT l j 2 [111, 118, 101, 114] := fun _ _ => rfl
attribute [local go_sem] rob tcast tkV tkA intV txV tstV Bool.false_eq_true Bool.not_false Bool.not_true in
theorem test_s (T : Tbl) (hS : ScT T) (nn : Nat) (ih : ∀ m, m ≤ nn → ∀ (b : Nat) (l : List Tk) (i d : Nat) (F : List (Nat × Ob)) (L : List Nat), l.length ≤ 400 → i ≤ l.length → d ≤ 7 → testR m l i d ≠ .oof → AC Tryz.prog T 237 [.ptr b 2 0 0, .d (.int .i64 (d : Nat))] ⟨rob b l i :: F, L⟩ (RD b F L l tstV (testR m l i d))) (b : Nat) (l : List Tk) (i d : Nat) (F : List (Nat × Ob)) (L : List Nat) (hl : l.length ≤ 400) (hi : i ≤ l.length) (hd7 : d ≤ 7) (hno : testR (nn + 1) l i d ≠ .oof) : AC Tryz.prog T 237 [.ptr b 2 0 0, .d (.int .i64 (d : Nat))] (⟨rob b l i :: F, L⟩) (RD b F L l tstV (testR (nn + 1) l i d)) := by
 refine ⟨Tryz.call237, ACalls.enterS Tryz.func237 rfl Tryz.ntmps237 rfl fun hb => ?_⟩
 simp only [go_sem, Tryz.results237]
 refine Zx (Zy ?_)
 intro b4
 first | intro fb4 | have fb4 := True.intro
 try simp only [freshL] at fb4
 refine Zs (Zd true [0, 1, 2, 3, 4, 5, 6, 7, 8, 9, 10, 11, 12, 13] ?_)
 simp only [go_sem, fb4]
 refine Zm 65543 ?_
 refine Zc (fun hc0 => ?_) fun hc0 => ?_
 ·
  have hd0 : 6 < d ∧ i < l.length := by omega
  refine Zq fun K_ k_ => ?_
  refine Zy ?_
  refine ZA [b] [] (give_c T b l i _ _ _) ?_
  rintro _ _ ⟨rfl, rfl⟩
  intro _
  simp only [thenQ]
  refine endW_p [b4] [] [b] [] ?_
  rw [te_1 hd0]
  exact ⟨rfl, by first | rfl | (simp only [go_sem, fb4]; done) | (simp only [go_sem, fb4]; rfl)⟩
 have hd0 : ¬ (6 < d ∧ i < l.length) := by omega
 refine Zk ?_
 refine AWp.rsG 1 fun K_ hK_ => ?_
 simp only [List.take_succ_cons, List.take_zero, List.drop_succ_cons, List.drop_zero]
 refine Zy ?_
 refine LV.dw1 ?_
 refine DW.sliceG (n := 11) (e := 9) rfl rfl rfl (by first | rfl | kernel_rfl) (by first | rfl | kernel_rfl) (by rw [hS.ts]; rfl) (by decide) (by decide) ?_
 refine DW.nil ?_
 rw [hS.ts, mapS]
 refine LV.lvc ?_
 refine Zy ?_
 refine ZA [b] [] (word_c T b l i _ _ tsT (by decide) (by omega)) ?_
 rintro _ _ hR
 rcases hR.cs (wordR_oof _ _ _) with ⟨jw, ew, hw, rfl, rfl⟩ | ⟨aw, jw, hw, rfl, rfl⟩
 ·
  intro _
  refine endW_p [b4] [] [b] [] ?_
  obtain ⟨q1, rfl, rfl⟩ := wordR_er hw
  rw [te_w hd0 hw]
  exact ⟨rfl, by first | rfl | (simp only [go_sem, fb4]; done) | (simp only [go_sem, fb4]; rfl)⟩
 obtain ⟨w1, w2, -, rfl⟩ := wordR_ok hw
 have wlt := nx_lt w1
 refine Zy ?_
 intro b5
 first | intro fb5 | have fb5 := True.intro
 try simp only [freshL] at fb5
 refine hK_ _ _ ?_
 refine Zm 15 ?_
 refine Zs (Zp 47 ?_)
 refine AWp.block (Zp 63 ?_)
 refine Zc (fun hc1 => ?_) fun hc1 => ?_
 ·
  subst hc1
  have hno2 : testR nn l (i + 1) (d + 1) ≠ .oof := by have := hno; rw [te_3 hd0 hw] at this; exact Rd.bind_no this
  have hd6 : d + 1 ≤ 7 := by rcases Nat.lt_or_ge 6 d with h9 | h9; exact absurd ⟨h9, wlt⟩ hd0; omega
  refine AWp.cutk 4 fun K_ hK_ => ?_
  simp only [List.take_succ_cons, List.take_zero, List.drop_succ_cons, List.drop_zero]
  refine Zy ?_
  (repeat (with_reducible refine And.intro ZS ?_))
  refine DW.acp [b] [] rfl rfl rfl rfl (by (try simp only [go_sem, fb4, fb5]) <;> rfl) rfl (ih nn (Nat.le_refl _) b l (i + 1) (d + 1) _ _ hl (by omega) hd6 hno2) ?_
  rintro _ _ hR
  rcases hR.cs hno2 with ⟨jx, ex, hx, rfl, rfl⟩ | ⟨ax, jx, hx, rfl, rfl⟩
  ·
   intro _
   refine endW_p [b4, b5] [] [b] [] ?_
   rw [te_3 hd0 hw, hx, Rd.bind_er]
   exact ⟨rfl, by first | rfl | (simp only [go_sem, fb4, fb5]; done) | (simp only [go_sem, fb4, fb5]; rfl)⟩
  refine Zy ?_
  refine DW.bsO (he := by first | rfl | kernel_rfl) rfl rfl (show slI Tryz.prog 32 = some (34, 8, 112) by simp only [go_sem]) (by (try simp only [go_sem]) <;> rfl) rfl (by decide) fun t1 ft1 => ?_
  try simp only [freshT] at ft1
  simp only [go_sem, fb5]
  refine hK_ _ _ ?_
  refine blkQ_n (thenQ_n ?_)
  refine Zm 12 ?_
  refine Zp 1 ?_
  refine AWp.ret ?_
  apply endW_r [b4, b5] [t1] [b] [] (by (try simp only [go_sem, fb4, fb5]) <;> rfl)
  · rw [te_3 hd0 hw, hx, Rd.bind_ok]
    exact ⟨rfl, by first | rfl | (simp only [go_sem, fb4, fb5]; done) | (simp only [go_sem, fb4, fb5, ft1]; rfl)⟩
  · simp [LeA, LeL, LeD, tstV, tstA, kidsD, kidsL_eq, tstD, Tst.kind, Tst.mat, Tst.part, Tst.names, Tst.keys, Tst.over, Tst.limit]
 refine Zs (Zp 95 ?_)
 refine Zy ?_
 apply Za (z := (_ || _)) 31 36
 ·
  refine AWp.cond _ rfl (fun hc2 => ?_) fun hc2 => ?_
  rotate_left
  ·
   refine Zr (thenQ_n ?_)
   refine Zf 31 32 (.e ⟨EqS.bo (or_f hc2 rfl), ⟨rfl⟩⟩)
  refine AWp.skip (thenQ_n ?_)
  refine Zf 31 32 (.e ⟨EqS.bo (or_t hc2), ⟨rfl⟩⟩)
 refine Zy ?_
 refine Zc (fun hc3 => ?_) fun hc3 => ?_
 ·
  have hk4 : aw = 4 ∨ aw = 5 := by omega
  have hd6 : d + 1 ≤ 7 := by rcases Nat.lt_or_ge 6 d with h9 | h9; exact absurd ⟨h9, wlt⟩ hd0; omega
  refine Zx (Zy ?_)
  refine ZA [b] [] (smust_c T b l (i + 1) _ _ [40] (by omega)) ?_
  rintro _ _ hR
  rcases hR.cs (mustR_oof _ _ _) with ⟨jm, em, hm, rfl, rfl⟩ | ⟨am, jm, hm, rfl, rfl⟩
  ·
   intro _
   simp only [thenQ, blkQ]
   refine endW_p [b4, b5] [] [b] [] ?_
   rw [te_4 hd0 hw hk4, hm, Rd.bind_er]
   exact ⟨rfl, by first | rfl | (simp only [go_sem, fb4, fb5]; done) | (simp only [go_sem, fb4, fb5]; rfl)⟩
  obtain ⟨m1, rfl⟩ := mustR_ok hm
  have mlt := isT_lt m1
  refine Zy ?_
  refine Zn 15 ?_
  refine AWp.ownNilH b5 0 7 8 (by (try simp only [go_sem, fb5]) <;> rfl) rfl rfl (by decide) fun t9 ft9 => ?_
  try simp only [freshT] at ft9
  simp only [go_sem, fb5]
  refine AWp.dsP false [0, 2, 3, 4, 7] [1, 6] [5] 8 [9, 11] 10 12 rfl (by kernel_rfl) rfl rfl rfl fun K_ hK_ => ?_
  refine Zy ?_
  (repeat (with_reducible refine And.intro ZS ?_))
  refine Exists.intro (fun h' : AH => getO b5 h'.objs = some ⟨8, 1, [[.d (.int .i64 aw), .d (.int .i64 0), .d (.int .i64 0), .nils, .nils, .d (.bool false), .d (.int .i64 0), .own t9 8 ([])]]⟩) (And.intro (by simp [getO, fb5]) ?_)
  refine Zy ?_
  refine FRN.ld rfl rfl (fun h' m1 => (by first | rfl | (simp only [go_sem, m1]; first | done | rfl | exact ⟨by omega, rfl⟩))) ?_
  refine Zy ?_
  refine FRN.op rfl (fun h' => (by first | rfl | (simp only [go_sem]; first | done | rfl | exact ⟨by omega, rfl⟩))) ?_
  refine Zy ?_
  refine FRN.nil ?_
  have hno2 : testR nn l (i + 1 + 1) (d + 1) ≠ .oof := by have := hno; rw [te_4 hd0 hw hk4, hm, Rd.bind_ok] at this; exact Rd.bind_no this
  refine ZA [b] [] (ih nn (Nat.le_refl _) b l (i + 1 + 1) (d + 1) _ _ hl (by omega) hd6 hno2) ?_
  rintro _ _ hR
  rcases hR.cs hno2 with ⟨jx, ex, hx, rfl, rfl⟩ | ⟨ax, jx, hx, rfl, rfl⟩
  ·
   intro _
   refine endW_p [b4, b5] [t9] [b] [] ?_
   rw [te_4 hd0 hw hk4, hm, Rd.bind_ok, hx, Rd.bind_er]
   exact ⟨rfl, by first | rfl | (simp only [go_sem, fb4, fb5]; done) | (simp only [go_sem, fb4, fb5, ft9]; rfl)⟩
  have lx := (test_le nn).1 _ _ _ _ _ hx
  simp only [go_sem, fb5]
  first | with_reducible refine And.intro (by simp [getO, tstD, fb4, fb5, ft9]) ?_ | skip
  refine DW.appL (tk := t9) (rows := []) rfl rfl rfl rfl (show slI Tryz.prog 32 = some (34, 8, 112) by simp only [go_sem]) rfl rfl (by simp) rfl (by (try simp only [List.length_nil]); omega) (by (try simp only [List.length_nil]); omega) fun bk ck fbk => ?_
  try simp only [freshL] at fbk
  refine Zy ?_
  apply Exists.intro
  apply Exists.intro
  refine And.intro ?_ (And.intro ?_ ?_)
  ·
   refine lvc_ok _ _ _ ?_
   simp only [go_sem, fb5, fbk]
   try exact ⟨rfl, rfl⟩
  ·
   refine lvc_ok _ _ _ ?_
   simp only [go_sem, fb5, fbk]
   try exact ⟨rfl, rfl⟩
  refine hK_ _ _ ?_
  refine Zm 15 ?_
  refine Zs (AWp.block (Zy ?_))
  refine Zl 15 0 (fun n lc hc => ∃ (j m bk ck : Nat) (acc : List Tst) (z : Tst), n = 2 * m ∧ EqS lc [] ∧ EqS hc (⟨(bk, ⟨8, ck, lrows acc.length ((tstD z).map .d)⟩) :: rob b l j :: (b5, ⟨8, 1, [[.d (.int .i64 aw), .d (.int .i64 0), .d (.int .i64 0), .nils, .nils, .d (.bool false), .d (.int .i64 0), .lar bk 8 (acc.map tstD) ck]]⟩) :: (b4, ⟨8, 1, [[.d (.int .i64 0), .d (.int .i64 0), .d (.int .i64 0), .nils, .nils, .d (.bool false), .d (.int .i64 0), .nils]]⟩) :: F, L⟩) ∧ (j ≤ l.length) ∧ (m ≤ nn) ∧ (acc.length + 1 ≤ j) ∧ (testR (nn + 1) l i d = testsR m l j d aw (acc ++ [z])) ∧ (testsR m l j d aw (acc ++ [z]) ≠ .oof)) ?_ ?_
  · refine ⟨_, jx, nn, bk, ck, [], ax, rfl, ZE, ?_, ?_, ?_, ?_, ?_, ?_⟩
    · (try simp only [go_sem]) <;> first | exact ⟨rfl⟩ | (constructor; simp [tstD, tstA, rob]; done)
    all_goals (first | omega | rfl | (simp; done) | (simp; omega) | assumption | (show _ = testsR nn l jx d aw [ax]; rw [te_4 hd0 hw hk4, hm, Rd.bind_ok, hx, Rd.bind_ok]) | (show testsR nn l jx d aw [ax] ≠ .oof; have h9 := hno; rw [te_4 hd0 hw hk4, hm, Rd.bind_ok, hx, Rd.bind_ok] at h9; exact h9))
  rintro _ _ _ ⟨j, m, bk, ck, acc, z, rfl, ⟨rfl⟩, ⟨rfl⟩, h1, h2, h3, h4, h5⟩
  obtain ⟨m, rfl⟩ : ∃ m2, m = m2 + 1 := by cases m with | zero => exact absurd (by rw [testsR]) h5 | succ m => exact ⟨m, rfl⟩
  have hbb5 := bneL (show b ≠ b5 from by have := fb5.1.1; simpa using this)
  refine AWp.larN (n := acc.length) (b := bk) (b' := b5) (i := 0) (j := 7) (k := 8) (c := ck) (rows := acc.map tstD) (z := tstD z) (ob := ⟨8, 1, [[.d (.int .i64 aw), .d (.int .i64 0), .d (.int .i64 0), .nils, .nils, .d (.bool false), .d (.int .i64 0), .lar bk 8 (acc.map tstD) ck]]⟩) (r := [.d (.int .i64 aw), .d (.int .i64 0), .d (.int .i64 0), .nils, .nils, .d (.bool false), .d (.int .i64 0), .lar bk 8 (acc.map tstD) ck]) (by simp) (by simp [getO, rob, fb5]) rfl rfl (by decide) (by rfl) fun w ftw => ?_
  try simp only [freshT] at ftw
  refine Zy ?_
  refine Zs (Zx ?_)
  simp only [go_sem, fb5]
  refine ZA [b] [] (eat_c T b l j _ _ [44] (by omega)) ?_
  rintro _ _ ⟨rfl, rfl⟩
  refine Zy ?_
  refine Zc (fun hc4 => ?_) fun hc4 => ?_
  ·
   refine Zk ?_
   refine AWp.block (AWp.dkP false [0, 2, 3, 4, 7] [1, 6] [5] 8 [9, 11] 10 12 rfl (by kernel_rfl) rfl rfl rfl fun K_ hK_ => ?_)
   simp only [go_sem, hc4, if_false, eq_self, if_true]
   (repeat (with_reducible refine And.intro ZS ?_))
   refine Exists.intro (fun h' : AH => getO b5 h'.objs = some ⟨8, 1, [[.d (.int .i64 aw), .d (.int .i64 0), .d (.int .i64 0), .nils, .nils, .d (.bool false), .d (.int .i64 0), .own w 8 (acc.map tstD ++ [tstD z])]]⟩) (And.intro (by simp [getO, tstD, fb5, eq_self]) ?_)
   refine Zy ?_
   refine FRN.ld rfl rfl (fun h' m1 => (by first | rfl | (simp only [go_sem, if_false, eq_self, if_true, m1]; first | done | rfl | exact ⟨by omega, rfl⟩))) ?_
   simp only [go_sem, if_false, if_true]
   refine FRN.op rfl (fun h' => (by first | rfl | (simp only [go_sem, if_false, eq_self, if_true]; first | done | rfl | exact ⟨by omega, rfl⟩))) ?_
   simp only [go_sem, if_false, if_true]
   refine FRN.nil ?_
   have hno2 : testR m l (j + 1) (d + 1) ≠ .oof := by have := h5; rw [ts_t hc4] at this; exact Rd.bind_no this
   refine ZA [b] [] (ih m (by omega) b l (j + 1) (d + 1) _ _ hl (by have := isT_lt hc4; omega) hd6 hno2) ?_
   rintro _ _ hR
   rcases hR.cs hno2 with ⟨jx, ex, hx, rfl, rfl⟩ | ⟨ax, jx, hx, rfl, rfl⟩
   ·
    intro _
    refine endW_p [b4, b5] [w] [b] [] ?_
    rw [h4, ts_t hc4, hx, Rd.bind_er]
    exact ⟨rfl, by first | rfl | (simp only [go_sem, fb4, fb5, if_false, eq_self, if_true]; done) | (simp only [go_sem, fb4, fb5, ft9, fbk, ftw, hbb5, hc4, if_false, eq_self, if_true]; rfl)⟩
   have lx := (test_le m).1 _ _ _ _ _ hx
   simp only [go_sem, *]
   first | with_reducible refine And.intro (by simp [getO, tstD, fb4, fb5, ft9, fbk, ftw, hbb5, hc4, if_false, eq_self, if_true]) ?_ | skip
   refine DW.appL (tk := w) (rows := acc.map tstD ++ [tstD z]) rfl rfl rfl rfl (show slI Tryz.prog 32 = some (34, 8, 112) by simp only [go_sem]) rfl rfl (by simp) rfl (by (try simp only [List.length_append, List.length_map, List.length_cons, List.length_nil]); omega) (by (try simp only [List.length_append, List.length_map, List.length_cons, List.length_nil]); omega) fun bk ck fbk => ?_
   try simp only [freshL] at fbk
   simp only [go_sem, *]
   apply Exists.intro
   apply Exists.intro
   refine And.intro ?_ (And.intro ?_ ?_)
   ·
    refine lvc_ok _ _ _ ?_
    simp only [go_sem, *]
    try exact ⟨rfl, rfl⟩
   ·
    refine lvc_ok _ _ _ ?_
    simp only [go_sem, *]
    try exact ⟨rfl, rfl⟩
   refine hK_ _ _ ?_
   refine blkQ_n (thenQ_n ?_)
   refine Ze 15 0 [] [] [bk, b, b5, b4] [] (.e ⟨_, ZM, jx, m, bk, ck, (acc ++ [z]), ax, rfl, ZE, ?_, ?_, ?_, ?_, ?_, ?_⟩)
   · (try simp only [go_sem, fb4, fb5, if_false, eq_self, if_true, fbk]) <;> first | exact ⟨rfl⟩ | (constructor; simp [tstD]; done)
   · omega
   · omega
   · simp; omega
   · rw [h4, ts_t hc4, hx, Rd.bind_ok]
   · have h9 := h5; rw [ts_t hc4, hx, Rd.bind_ok] at h9; exact h9
  refine AWp.exit (thenQ_e (thenQ_e (blkQ_e (thenQ_n ?_))))
  refine Zq fun K_ k_ => ?_
  simp only [go_sem, hc4, if_false, eq_self, if_true]
  refine ZA [b] [] (smust_c T b l j _ _ [41] (by omega)) ?_
  rintro _ _ hR
  rcases hR.cs (mustR_oof _ _ _) with ⟨jm2, em2, hm2, rfl, rfl⟩ | ⟨am2, jm2, hm2, rfl, rfl⟩
  ·
   intro _
   simp only [thenQ, blkQ]
   refine endW_p [b4, b5] [w] [b] [] ?_
   rw [h4, ts_f hc4, hm2, Rd.bind_er]
   exact ⟨rfl, by first | rfl | (simp only [go_sem, fb4, fb5, if_false, eq_self, if_true]; done) | (simp only [go_sem, fb4, fb5, ft9, fbk, ftw, hbb5, hc4, if_false, eq_self, if_true]; rfl)⟩
  obtain ⟨m3, rfl⟩ := mustR_ok hm2
  simp only [go_sem, if_false]
  refine k_ _ _ (blkQ_n (thenQ_n ?_))
  refine Zm 12 ?_
  refine Zp 1 ?_
  refine AWp.ret ?_
  apply endW_r [b4, b5] [w] [b] [] (by (try simp only [go_sem, fb4, fb5, if_false, eq_self, if_true]) <;> rfl)
  · rw [h4, ts_f hc4, hm2, Rd.bind_ok]
    exact ⟨rfl, by first | rfl | (simp only [go_sem, fb4, fb5, if_false, eq_self, if_true]; done) | (simp only [go_sem, fb4, fb5, ft9, fbk, ftw, hbb5, hc4, if_false, eq_self, if_true]; rfl)⟩
  · simp [LeA, LeL, LeD, tstV, tstA, kidsD, kidsL_eq, tstD, Tst.kind, Tst.mat, Tst.part, Tst.names, Tst.keys, Tst.over, Tst.limit]
 refine Zs (Zp 93 ?_)
 refine Zy ?_
 apply Za (z := (_ || (_ || _))) 15 67
 ·
  refine AWp.cond _ rfl (fun hc5 => ?_) fun hc5 => ?_
  rotate_left
  ·
   refine Zp 31 ?_
   refine AWp.cond _ rfl (fun hc6 => ?_) fun hc6 => ?_
   rotate_left
   ·
    refine Zr (thenQ_n ?_)
    refine Zf 15 16 (.e ⟨EqS.bo (or_f hc5 (or_f hc6 rfl)), ⟨rfl⟩⟩)
   refine AWp.skip (thenQ_n ?_)
   refine Zf 15 16 (.e ⟨EqS.bo (or_f hc5 (or_t hc6)), ⟨rfl⟩⟩)
  refine AWp.skip (thenQ_n ?_)
  refine Zf 15 16 (.e ⟨EqS.bo (or_t hc5), ⟨rfl⟩⟩)
 refine Zy ?_
 refine Zc (fun hc7 => ?_) fun hc7 => ?_
 ·
  have hk6 : aw = 6 ∨ aw = 7 ∨ aw = 8 := by omega
  refine Zx (Zy ?_)
  refine ZA [b, b5] [] (tags_c T hS b b5 l (i + 1) aw 0 0 _ _ hl (by omega)) ?_
  rintro _ _ hR
  rcases TG.cs hR (tagS_oof _ _ _ _ _) with ⟨jg, eg, hg, rfl, mg, pg, rfl⟩ | ⟨ag, jg, hg, rfl, rfl⟩
  ·
   intro _
   simp only [thenQ, blkQ]
   refine endW_p [b4, b5] [] [b] [] ?_
   rw [te_6 hd0 hw hk6, hg, Rd.bind_er]
   exact ⟨rfl, by first | rfl | (simp only [go_sem, fb4, fb5]; done) | (simp only [go_sem, fb4, fb5]; rfl)⟩
  have lg := tagS_le _ _ _ _ _ _ _ hg
  refine Zy ?_
  refine Zm 7 ?_
  refine Zx (Zy ?_)
  refine ZA [b] [] (slist_c T b l jg _ _ hl (by omega)) ?_
  rintro _ _ hR
  rcases hR.cs (strsR_oof _ _) with ⟨jy, ey, hy, rfl, rfl⟩ | ⟨ay, jy, hy, rfl, rfl⟩
  ·
   intro _
   simp only [thenQ, blkQ]
   refine endW_p [b4, b5] [] [b] [] ?_
   rw [te_6 hd0 hw hk6, hg, Rd.bind_ok, hy, Rd.bind_er]
   exact ⟨rfl, by first | rfl | (simp only [go_sem, fb4, fb5]; done) | (simp only [go_sem, fb4, fb5]; rfl)⟩
  have ly := strsR_le _ _ _ _ hy
  simp only [go_sem, fb5]
  refine Zq fun K_ k_ => ?_
  refine Zy ?_
  refine ZA [b] [] (slist_c T b l jy _ _ hl (by omega)) ?_
  rintro _ _ hR
  rcases hR.cs (strsR_oof _ _) with ⟨ju, eu, hu, rfl, rfl⟩ | ⟨au, ju, hu, rfl, rfl⟩
  ·
   intro _
   simp only [thenQ, blkQ]
   refine endW_p [b4, b5] [] [b] [] ?_
   rw [te_6 hd0 hw hk6, hg, Rd.bind_ok, hy, Rd.bind_ok, hu, Rd.bind_er]
   exact ⟨rfl, by first | rfl | (simp only [go_sem, fb4, fb5]; done) | (simp only [go_sem, fb4, fb5]; rfl)⟩
  have lu := strsR_le _ _ _ _ hu
  simp only [go_sem, fb5]
  refine k_ _ _ (blkQ_n (thenQ_n ?_))
  refine Zm 6 ?_
  refine Zp 1 ?_
  refine AWp.ret ?_
  apply endW_r [b4, b5] [] [b] [] (by (try simp only [go_sem, fb4, fb5]) <;> rfl)
  · rw [te_6 hd0 hw hk6, hg, Rd.bind_ok, hy, Rd.bind_ok, hu, Rd.bind_ok]
    exact ⟨rfl, by first | rfl | (simp only [go_sem, fb4, fb5]; done) | (simp only [go_sem, fb4, fb5]; rfl)⟩
  · simp [LeA, LeL, LeD, tstV, tstA, kidsD, kidsL_eq, Tst.kind, Tst.mat, Tst.part, Tst.names, Tst.keys, Tst.over, Tst.limit]
 refine Zp 47 ?_
 refine Zc (fun hc8 => ?_) fun hc8 => ?_
 ·
  subst hc8
  refine Zq fun K_ k_ => ?_
  refine Zy ?_
  refine ZA [b] [] (slist_c T b l (i + 1) _ _ hl (by omega)) ?_
  rintro _ _ hR
  rcases hR.cs (strsR_oof _ _) with ⟨jn, en, hn, rfl, rfl⟩ | ⟨an, jn, hn, rfl, rfl⟩
  ·
   intro _
   simp only [thenQ, blkQ]
   refine endW_p [b4, b5] [] [b] [] ?_
   rw [te_9 hd0 hw, hn, Rd.bind_er]
   exact ⟨rfl, by first | rfl | (simp only [go_sem, fb4, fb5]; done) | (simp only [go_sem, fb4, fb5]; rfl)⟩
  have ln := strsR_le _ _ _ _ hn
  simp only [go_sem, fb5]
  refine k_ _ _ (blkQ_n (thenQ_n ?_))
  refine Zm 6 ?_
  refine Zp 1 ?_
  refine AWp.ret ?_
  apply endW_r [b4, b5] [] [b] [] (by (try simp only [go_sem, fb4, fb5]) <;> rfl)
  · rw [te_9 hd0 hw, hn, Rd.bind_ok]
    exact ⟨rfl, by first | rfl | (simp only [go_sem, fb4, fb5]; done) | (simp only [go_sem, fb4, fb5]; rfl)⟩
  · simp [LeA, LeL, LeD, tstV, tstA, kidsD, kidsL_eq, Tst.kind, Tst.mat, Tst.part, Tst.names, Tst.keys, Tst.over, Tst.limit]
 refine Zp 39 ?_
 refine Zc (fun hc9 => ?_) fun hc9 => ?_
 ·
  subst hc9
  refine Zx (Zy ?_)
  refine ZA [b] [] (is_c T b l (i + 1) _ _ _ _) ?_
  rintro _ _ ⟨rfl, rfl⟩
  simp only [go_sem, fb5]
  refine Zm 7 ?_
  refine Zs ?_
  cases hov : isT l (i + 1) 2 [111, 118, 101, 114]
  ·
   refine AWp.rsG 5 fun K_ hK_ => ?_
   simp only [List.take_succ_cons, List.take_zero, List.drop_succ_cons, List.drop_zero]
   simp only [go_sem, fb5]
   refine LV.gcall rfl rfl (by first | rfl | (simp only [go_sem, fb4, fb5, hov]; done) | (simp only [go_sem, fb4, fb5, hov]; rfl)) rfl rfl (by rfl) (LeH.refl _) (by first | rfl | (simp only [go_sem, fb4, fb5, hov]; done) | (simp only [go_sem, fb4, fb5, hov]; rfl)) (is_c T b l (i + 1) _ _ _ _) ?_
   rintro _ _ ⟨rfl, rfl⟩
   refine LV.leH (LeH.refl _) (LV.lvc ?_)
   refine Zy ?_
   refine hK_ _ _ ?_
   refine Zm 1031 ?_
   refine Zc (fun hc10 => ?_) fun hc10 => ?_
   ·
    have hun : isT l (i + 1) 2 [117, 110, 100, 101, 114] = false := by simpa using hc10
    refine Zq fun K_ k_ => ?_
    refine Zy ?_
    refine ZA [b] [] (give_c T b l (i + 1) _ _ _) ?_
    rintro _ _ ⟨rfl, rfl⟩
    intro _
    simp only [thenQ, blkQ]
    refine endW_p [b4, b5] [] [b] [] ?_
    rw [te_s hd0 hw, if_neg (by simp [overT, underT, hov, hun])]
    exact ⟨rfl, by first | rfl | (simp only [go_sem, fb4, fb5]; done) | (simp only [go_sem, fb4, fb5, hov]; rfl)⟩
   have hou : isT l (i + 1) 2 overT = true ∨ isT l (i + 1) 2 underT = true := .inr (by simpa [underT] using hc10)
   refine Zk ?_
   refine Zp 7 ?_
   refine Zq fun K_ k_ => ?_
   refine Zy ?_
   refine ZA [b] [] (snext_c T b l (i + 1 + 1) _ _ 3 (by omega)) ?_
   rintro _ _ hR
   rcases hR.cs (nextR_oof _ _ _) with ⟨jz, ez, hz, rfl, rfl⟩ | ⟨az, jz, hz, rfl, rfl⟩
   ·
    intro _
    simp only [thenQ, blkQ]
    refine endW_p [b4, b5] [] [b] [] ?_
    obtain ⟨q1, rfl, rfl⟩ := nextR_er hz
    rw [te_s hd0 hw, if_pos hou, hz, Rd.bind_er]
    exact ⟨rfl, by first | rfl | (simp only [go_sem, fb4, fb5]; done) | (simp only [go_sem, fb4, fb5, hov]; rfl)⟩
   obtain ⟨z1, rfl, rfl⟩ := nextR_ok hz
   simp only [go_sem, fb5]
   refine k_ _ _ (blkQ_n (thenQ_n ?_))
   refine Zm 6 ?_
   refine Zp 1 ?_
   refine AWp.ret ?_
   apply endW_r [b4, b5] [] [b] [] (by (try simp only [go_sem, fb4, fb5]) <;> rfl)
   · rw [te_s hd0 hw, if_pos hou, hz, Rd.bind_ok, over_e, hov]
     exact ⟨rfl, by first | rfl | (simp only [go_sem, fb4, fb5]; done) | (simp only [go_sem, fb4, fb5, hov]; rfl)⟩
   · simp [LeA, LeL, LeD, tstV, tstA, kidsD, kidsL_eq, Tst.kind, Tst.mat, Tst.part, Tst.names, Tst.keys, Tst.over, Tst.limit]
  refine Zx ?_
  simp only [go_sem, fb5]
  refine DW.skipc rfl rfl ?_
  refine Zy ?_
  refine Zm 1031 ?_
  refine Zc (fun hc10 => ?_) fun hc10 => ?_
  ·
   exact absurd hc10 (by first | (simp; done) | omega | (simp [*]; done))
  have hou : isT l (i + 1) 2 overT = true ∨ isT l (i + 1) 2 underT = true := .inl hov
  refine Zk ?_
  refine Zp 7 ?_
  refine Zq fun K_ k_ => ?_
  refine Zy ?_
  refine ZA [b] [] (snext_c T b l (i + 1 + 1) _ _ 3 (by omega)) ?_
  rintro _ _ hR
  rcases hR.cs (nextR_oof _ _ _) with ⟨jz, ez, hz, rfl, rfl⟩ | ⟨az, jz, hz, rfl, rfl⟩
  ·
   intro _
   simp only [thenQ, blkQ]
   refine endW_p [b4, b5] [] [b] [] ?_
   obtain ⟨q1, rfl, rfl⟩ := nextR_er hz
   rw [te_s hd0 hw, if_pos hou, hz, Rd.bind_er]
   exact ⟨rfl, by first | rfl | (simp only [go_sem, fb4, fb5]; done) | (simp only [go_sem, fb4, fb5, hov]; rfl)⟩
  obtain ⟨z1, rfl, rfl⟩ := nextR_ok hz
  simp only [go_sem, fb5]
  refine k_ _ _ (blkQ_n (thenQ_n ?_))
  refine Zm 6 ?_
  refine Zp 1 ?_
  refine AWp.ret ?_
  apply endW_r [b4, b5] [] [b] [] (by (try simp only [go_sem, fb4, fb5]) <;> rfl)
  · rw [te_s hd0 hw, if_pos hou, hz, Rd.bind_ok, over_e, hov]
    exact ⟨rfl, by first | rfl | (simp only [go_sem, fb4, fb5]; done) | (simp only [go_sem, fb4, fb5, hov]; rfl)⟩
  · simp [LeA, LeL, LeD, tstV, tstA, kidsD, kidsL_eq, Tst.kind, Tst.mat, Tst.part, Tst.names, Tst.keys, Tst.over, Tst.limit]
 have hk0 : ¬ aw = 3 ∧ ¬ (aw = 4 ∨ aw = 5) ∧ ¬ (aw = 6 ∨ aw = 7 ∨ aw = 8) ∧ ¬ aw = 9 ∧ ¬ aw = 10 := ⟨by omega, by omega, by omega, by omega, by omega⟩
 refine AWp.skip (blkQ_n (thenQ_n ?_))
 refine Zp 2 ?_
 refine AWp.ret ?_
 apply endW_r [b4, b5] [] [b] [] (by (try simp only [go_sem, fb4, fb5]) <;> rfl)
 · rw [te_n hd0 hw hk0]
   exact ⟨rfl, by first | rfl | (simp only [go_sem, fb4, fb5]; done) | (simp only [go_sem, fb4, fb5]; rfl)⟩
 · simp [LeA, LeL, LeD, tstV, tstA, kidsD, kidsL_eq, Tst.kind, Tst.mat, Tst.part, Tst.names, Tst.keys, Tst.over, Tst.limit]
end
section
open Go.RowKit
theorem test_n (T : Tbl) (hS : ScT T) : ∀ (n m : Nat), m ≤ n → ∀ (b : Nat) (l : List Tk) (i d : Nat) (F : List (Nat × Ob)) (L : List Nat), l.length ≤ 400 → i ≤ l.length → d ≤ 7 → testR m l i d ≠ .oof → AC Tryz.prog T 237 [.ptr b 2 0 0, .d (.int .i64 (d : Nat))] ⟨rob b l i :: F, L⟩ (RD b F L l tstV (testR m l i d)) := by
 intro n
 induction n with
 | zero =>
  intro m hm b l i d F L hl hi hd hno
  obtain rfl : m = 0 := by omega
  exact absurd (by rw [testR]) hno
 | succ n ih =>
  intro m hm b l i d F L hl hi hd hno
  cases m with
  | zero => exact absurd (by rw [testR]) hno
  | succ m => exact test_s T hS m (fun m2 h2 => ih m2 (by omega)) b l i d F L hl hi hd hno
theorem test_c (T : Tbl) (hS : ScT T) (n b : Nat) (l : List Tk) (i d : Nat) (F : List (Nat × Ob)) (L : List Nat) (hl : l.length ≤ 400) (hi : i ≤ l.length) (hd : d ≤ 7) (hno : testR n l i d ≠ .oof) : AC Tryz.prog T 237 [.ptr b 2 0 0, .d (.int .i64 (d : Nat))] ⟨rob b l i :: F, L⟩ (RD b F L l tstV (testR n l i d)) :=
 test_n T hS n n (Nat.le_refl _) b l i d F L hl hi hd hno
end
section
open Go.RowKit
def tst0 : Tst := .mk 0 0 0 [] [] false 0 []
def elsifT : Tx := [101, 108, 115, 105, 102]
def elseT : Tx := [101, 108, 115, 101]
mutual
def cmdR : Nat → List Tk → Nat → Nat → Rd Cmd
 | 0, _, _, _ => .oof
 | n + 1, l, i, d =>
  if 6 < d ∧ i < l.length then .err i 1
  else (wordR l i scmT).bind fun k j =>
   if k = 2 then branchR n l j d
   else if k = 1 ∨ k = 8 ∨ k = 9 then (strsR l j).bind fun a j1 => (mustR l j1 [59]).bind fun _ j2 => .ok (.mk k a tst0 [] []) j2
   else if k = 5 ∨ k = 6 ∨ k = 7 then (nextR l j 4).bind fun t j1 => (mustR l j1 [59]).bind fun _ j2 => .ok (.mk k [t.text] tst0 [] []) j2
   else (mustR l j [59]).bind fun _ j1 => .ok (.mk k [] tst0 [] []) j1
def blockR : Nat → List Tk → Nat → Nat → Rd (List Cmd)
 | 0, _, _, _ => .oof
 | n + 1, l, i, d => (mustR l i [123]).bind fun _ j => cmdsR n l j d []
def cmdsR : Nat → List Tk → Nat → Nat → List Cmd → Rd (List Cmd)
 | 0, _, _, _, _ => .oof
 | n + 1, l, j, d, acc => if isT l j 5 [125] = true then .ok acc (j + 1) else (cmdR n l j d).bind fun c j1 => cmdsR n l j1 d (acc ++ [c])
def branchR : Nat → List Tk → Nat → Nat → Rd Cmd
 | 0, _, _, _ => .oof
 | n + 1, l, i, d => (testR n l i 1).bind fun t j => (blockR n l j (d + 1)).bind fun th j1 =>
   if isT l j1 1 elsifT = true then (branchR n l (j1 + 1) d).bind fun c j2 => .ok (.mk 2 [] t th [c]) j2
   else if isT l j1 1 elseT = true then (blockR n l (j1 + 1) (d + 1)).bind fun e j2 => .ok (.mk 2 [] t th e) j2
   else .ok (.mk 2 [] t th []) j1
end
def cmdV : Cmd → AV := fun c => .agg (cmdA c)
def cmdsV : List Cmd → AV := fun l => .d (.slc 12 (l.map cmdD))
section
variable {n i j d : Nat} {l : List Tk} {k : Int} {acc : List Cmd}
theorem cd_1 (h : 6 < d ∧ i < l.length) : cmdR (n + 1) l i d = .err i 1 := by rw [cmdR, if_pos h]
theorem cd_w {e : Int} (h : ¬ (6 < d ∧ i < l.length)) (hw : wordR l i scmT = .err j e) : cmdR (n + 1) l i d = .err j e := by rw [cmdR, if_neg h, hw]; rfl
theorem cd_2 (h : ¬ (6 < d ∧ i < l.length)) (hw : wordR l i scmT = .ok 2 j) : cmdR (n + 1) l i d = branchR n l j d := by rw [cmdR, if_neg h, hw, Rd.bind_ok, if_pos rfl]
theorem cd_l (h : ¬ (6 < d ∧ i < l.length)) (hw : wordR l i scmT = .ok k j) (hk : k = 1 ∨ k = 8 ∨ k = 9) : cmdR (n + 1) l i d = (strsR l j).bind fun a j1 => (mustR l j1 [59]).bind fun _ j2 => .ok (.mk k a tst0 [] []) j2 := by rw [cmdR, if_neg h, hw, Rd.bind_ok, if_neg (by omega), if_pos hk]
theorem cd_t (h : ¬ (6 < d ∧ i < l.length)) (hw : wordR l i scmT = .ok k j) (hk : k = 5 ∨ k = 6 ∨ k = 7) : cmdR (n + 1) l i d = (nextR l j 4).bind fun t j1 => (mustR l j1 [59]).bind fun _ j2 => .ok (.mk k [t.text] tst0 [] []) j2 := by rw [cmdR, if_neg h, hw, Rd.bind_ok, if_neg (by omega), if_neg (by omega), if_pos hk]
theorem cd_n (h : ¬ (6 < d ∧ i < l.length)) (hw : wordR l i scmT = .ok k j) (hk : ¬ k = 2 ∧ ¬ (k = 1 ∨ k = 8 ∨ k = 9) ∧ ¬ (k = 5 ∨ k = 6 ∨ k = 7)) : cmdR (n + 1) l i d = (mustR l j [59]).bind fun _ j1 => .ok (.mk k [] tst0 [] []) j1 := by rw [cmdR, if_neg h, hw, Rd.bind_ok, if_neg hk.1, if_neg hk.2.1, if_neg hk.2.2]
theorem bl_e : blockR (n + 1) l i d = (mustR l i [123]).bind fun _ j => cmdsR n l j d [] := by rw [blockR]
theorem cs_t (h : isT l j 5 [125] = true) : cmdsR (n + 1) l j d acc = .ok acc (j + 1) := by rw [cmdsR, if_pos h]
theorem cs_f (h : isT l j 5 [125] = false) : cmdsR (n + 1) l j d acc = (cmdR n l j d).bind fun c j1 => cmdsR n l j1 d (acc ++ [c]) := by rw [cmdsR, if_neg (by simp [h])]
theorem br_e : branchR (n + 1) l i d = (testR n l i 1).bind fun t j => (blockR n l j (d + 1)).bind fun th j1 =>
      if isT l j1 1 elsifT = true then (branchR n l (j1 + 1) d).bind fun c j2 => .ok (.mk 2 [] t th [c]) j2
      else if isT l j1 1 elseT = true then (blockR n l (j1 + 1) (d + 1)).bind fun e j2 => .ok (.mk 2 [] t th e) j2
      else .ok (.mk 2 [] t th []) j1 := by rw [branchR]
end
end
section
theorem cmd_le : ∀ n, (∀ l i d x j, cmdR n l i d = .ok x j → i < j ∧ j ≤ l.length) ∧ (∀ l i d x j, blockR n l i d = .ok x j → i < j ∧ j ≤ l.length) ∧ (∀ l i d acc x j, cmdsR n l i d acc = .ok x j → i < j ∧ j ≤ l.length) ∧ (∀ l i d x j, branchR n l i d = .ok x j → i < j ∧ j ≤ l.length)
 | 0 => ⟨fun l i d x j h => (by rw [cmdR] at h; cases h), fun l i d x j h => (by rw [blockR] at h; cases h), fun l i d acc x j h => (by rw [cmdsR] at h; cases h), fun l i d x j h => (by rw [branchR] at h; cases h)⟩
 | n + 1 => by
  obtain ⟨h1, h2, h3, h4⟩ := cmd_le n
  refine ⟨fun l i d x j h => ?_, fun l i d x j h => ?_, fun l i d acc x j h => ?_, fun l i d x j h => ?_⟩
  ·rw [cmdR] at h
   split at h
   ·cases h
   obtain ⟨k, j0, hw, h⟩ := Rd.bind_inv h
   obtain ⟨w1, _, _, rfl⟩ := wordR_ok hw
   have wl := nx_lt w1
   split at h
   ·have := h4 _ _ _ _ _ h
    omega
   split at h
   ·obtain ⟨a, j1, h5, h⟩ := Rd.bind_inv h
    have := strsR_le _ _ _ _ h5
    obtain ⟨a2, j2, h6, h⟩ := Rd.bind_inv h
    obtain ⟨m1, rfl⟩ := mustR_ok h6
    have ml := isT_lt m1
    injection h with h7 h8
    omega
   split at h
   ·obtain ⟨a, j1, h5, h⟩ := Rd.bind_inv h
    obtain ⟨n1, _, rfl⟩ := nextR_ok h5
    have := nx_lt n1
    obtain ⟨a2, j2, h6, h⟩ := Rd.bind_inv h
    obtain ⟨m1, rfl⟩ := mustR_ok h6
    have ml := isT_lt m1
    injection h with h7 h8
    omega
   ·obtain ⟨a2, j2, h6, h⟩ := Rd.bind_inv h
    obtain ⟨m1, rfl⟩ := mustR_ok h6
    have ml := isT_lt m1
    injection h with h7 h8
    omega
  ·rw [blockR] at h
   obtain ⟨a2, j2, h6, h⟩ := Rd.bind_inv h
   obtain ⟨m1, rfl⟩ := mustR_ok h6
   have ml := isT_lt m1
   have := h3 _ _ _ _ _ _ h
   omega
  ·rw [cmdsR] at h
   split at h
   ·rename_i h5
    have := isT_lt h5
    injection h with h7 h8
    omega
   ·obtain ⟨a2, j2, h6, h⟩ := Rd.bind_inv h
    have := h1 _ _ _ _ _ h6
    have := h3 _ _ _ _ _ _ h
    omega
  ·rw [branchR] at h
   obtain ⟨a, j1, h5, h⟩ := Rd.bind_inv h
   have := (test_le n).1 _ _ _ _ _ h5
   obtain ⟨a2, j2, h6, h⟩ := Rd.bind_inv h
   have := h2 _ _ _ _ _ h6
   split at h
   ·obtain ⟨a3, j3, h7, h⟩ := Rd.bind_inv h
    have := h4 _ _ _ _ _ h7
    injection h with h8 h9
    omega
   split at h
   ·obtain ⟨a3, j3, h7, h⟩ := Rd.bind_inv h
    have := h2 _ _ _ _ _ h7
    injection h with h8 h9
    omega
   ·injection h with h8 h9
    omega
attribute [local go_sem] rob tcast tkV tkA intV txV tstV cmdV cmdsV in
theorem command_s (T : Tbl) (hS : ScT T) (nn : Nat) (ihr : ∀ m, m ≤ nn → ∀ (b : Nat) (l : List Tk) (i d : Nat) (F : List (Nat × Ob)) (L : List Nat), l.length ≤ 400 → i ≤ l.length → d ≤ 6 → branchR m l i d ≠ .oof → AC Tryz.prog T 177 [.ptr b 2 0 0, .d (.int .i64 (d : Nat))] ⟨rob b l i :: F, L⟩ (RD b F L l cmdV (branchR m l i d))) (b : Nat) (l : List Tk) (i d : Nat) (F : List (Nat × Ob)) (L : List Nat) (hl : l.length ≤ 400) (hi : i ≤ l.length) (hd7 : d ≤ 7) (hno : cmdR (nn + 1) l i d ≠ .oof) : AC Tryz.prog T 107 [.ptr b 2 0 0, .d (.int .i64 (d : Nat))] (⟨rob b l i :: F, L⟩) (RD b F L l cmdV (cmdR (nn + 1) l i d)) := by
 refine ⟨Tryz.call107, ACalls.enterS Tryz.func107 rfl Tryz.ntmps107 rfl fun hb => ?_⟩
 simp only [go_sem, Tryz.results107]
 refine Zx (Zy ?_)
 intro b4
 first | intro fb4 | have fb4 := True.intro
 try simp only [freshL] at fb4
 refine Zs (Zd true [0, 1, 2, 3, 4, 5, 6, 7, 8, 9, 10, 11, 12, 13] ?_)
 simp only [go_sem, fb4]
 refine Zm 65543 ?_
 refine Zc (fun hc0 => ?_) fun hc0 => ?_
 ·
  have hd0 : 6 < d ∧ i < l.length := by omega
  refine Zq fun K_ k_ => ?_
  refine Zy ?_
  refine ZA [b] [] (give_c T b l i _ _ _) ?_
  rintro _ _ ⟨rfl, rfl⟩
  intro _
  simp only [thenQ]
  refine endW_p [b4] [] [b] [] ?_
  rw [cd_1 hd0]
  exact ⟨rfl, by first | rfl | (simp only [go_sem, fb4]; done) | (simp only [go_sem, fb4]; rfl)⟩
 have hd0 : ¬ (6 < d ∧ i < l.length) := by omega
 refine Zk ?_
 refine AWp.rsG 1 fun K_ hK_ => ?_
 simp only [List.take_succ_cons, List.take_zero, List.drop_succ_cons, List.drop_zero]
 refine Zy ?_
 refine LV.dw1 ?_
 refine DW.sliceG (n := 11) (e := 9) rfl rfl rfl (by first | rfl | kernel_rfl) (by first | rfl | kernel_rfl) (by rw [hS.cm]; rfl) (by decide) (by decide) ?_
 refine DW.nil ?_
 rw [hS.cm, mapS]
 refine LV.lvc ?_
 refine Zy ?_
 refine ZA [b] [] (word_c T b l i _ _ scmT (by decide) (by omega)) ?_
 rintro _ _ hR
 rcases hR.cs (wordR_oof _ _ _) with ⟨jw, ew, hw, rfl, rfl⟩ | ⟨aw, jw, hw, rfl, rfl⟩
 ·
  intro _
  refine endW_p [b4] [] [b] [] ?_
  obtain ⟨q1, rfl, rfl⟩ := wordR_er hw
  rw [cd_w hd0 hw]
  exact ⟨rfl, by first | rfl | (simp only [go_sem, fb4]; done) | (simp only [go_sem, fb4]; rfl)⟩
 obtain ⟨w1, w2, -, rfl⟩ := wordR_ok hw
 have wlt := nx_lt w1
 refine Zy ?_
 intro b5
 first | intro fb5 | have fb5 := True.intro
 try simp only [freshL] at fb5
 refine hK_ _ _ ?_
 refine Zm 15 ?_
 refine Zs (Zp 47 ?_)
 refine AWp.block (Zp 63 ?_)
 refine Zc (fun hc1 => ?_) fun hc1 => ?_
 ·
  subst hc1
  have hno2 : branchR nn l (i + 1) d ≠ .oof := by have := hno; rw [cd_2 hd0 hw] at this; exact this
  have hd6 : d ≤ 6 := by rcases Nat.lt_or_ge 6 d with h9 | h9; exact absurd ⟨h9, wlt⟩ hd0; exact h9
  refine Zx (Zy ?_)
  refine ZA [b] [] (ihr nn (Nat.le_refl _) b l (i + 1) d _ _ hl (by omega) hd6 hno2) ?_
  rintro _ _ hR
  rcases hR.cs hno2 with ⟨jx, ex, hx, rfl, rfl⟩ | ⟨ax, jx, hx, rfl, rfl⟩
  ·
   intro _
   simp only [thenQ, blkQ]
   refine endW_p [b4, b5] [] [b] [] ?_
   rw [cd_2 hd0 hw, hx]
   exact ⟨rfl, by first | rfl | (simp only [go_sem, fb4, fb5]; done) | (simp only [go_sem, fb4, fb5]; rfl)⟩
  simp only [go_sem, fb4, fb5]
  refine Zm 4 ?_
  refine AWp.ret ?_
  simp only [thenQ, blkQ]
  apply endW_r [b4, b5] [] [b] [] (by (try simp only [go_sem, fb4, fb5]) <;> rfl)
  · rw [cd_2 hd0 hw, hx]
    exact ⟨rfl, by first | rfl | (simp only [go_sem, fb4, fb5]; done) | (simp only [go_sem, fb4, fb5]; rfl)⟩
  · simp [LeA, LeL, LeD, cmdV, cmdA, tstA, Tst.kind, Tst.mat, Tst.part, Tst.names, Tst.keys, Tst.over, Tst.limit, Cmd.kind, Cmd.texts, Cmd.test]
 refine Zs (Zp 93 ?_)
 refine Zy ?_
 apply Za (z := (_ || (_ || _))) 15 33
 ·
  refine AWp.cond _ rfl (fun hc2 => ?_) fun hc2 => ?_
  rotate_left
  ·
   refine Zp 31 ?_
   refine AWp.cond _ rfl (fun hc3 => ?_) fun hc3 => ?_
   rotate_left
   ·
    refine Zr (thenQ_n ?_)
    refine Zf 15 16 (.e ⟨EqS.bo (or_f hc2 (or_f hc3 rfl)), ⟨rfl⟩⟩)
   refine AWp.skip (thenQ_n ?_)
   refine Zf 15 16 (.e ⟨EqS.bo (or_f hc2 (or_t hc3)), ⟨rfl⟩⟩)
  refine AWp.skip (thenQ_n ?_)
  refine Zf 15 16 (.e ⟨EqS.bo (or_t hc2), ⟨rfl⟩⟩)
 refine Zy ?_
 refine Zc (fun hc4 => ?_) fun hc4 => ?_
 ·
  have hk : aw = 1 ∨ aw = 8 ∨ aw = 9 := by omega
  refine Zq fun K_ k_ => ?_
  refine Zy ?_
  refine ZA [b] [] (slist_c T b l (i + 1) _ _ hl (by omega)) ?_
  rintro _ _ hR
  rcases hR.cs (strsR_oof _ _) with ⟨jy, ey, hy, rfl, rfl⟩ | ⟨ay, jy, hy, rfl, rfl⟩
  ·
   intro _
   simp only [thenQ, blkQ]
   refine endW_p [b4, b5] [] [b] [] ?_
   rw [cd_l hd0 hw hk, hy, Rd.bind_er]
   exact ⟨rfl, by first | rfl | (simp only [go_sem, fb4, fb5]; done) | (simp only [go_sem, fb4, fb5]; rfl)⟩
  have ly := strsR_le _ _ _ _ hy
  simp only [go_sem, fb5]
  refine k_ _ _ (blkQ_n (thenQ_n ?_))
  refine Zm 7 ?_
  refine Zx (Zy ?_)
  refine ZA [b] [] (smust_c T b l jy _ _ [59] (by omega)) ?_
  rintro _ _ hR
  rcases hR.cs (mustR_oof _ _ _) with ⟨jm, em, hm, rfl, rfl⟩ | ⟨am, jm, hm, rfl, rfl⟩
  ·
   intro _
   refine endW_p [b4, b5] [] [b] [] ?_
   rw [cd_l hd0 hw hk, hy, Rd.bind_ok, hm, Rd.bind_er]
   exact ⟨rfl, by first | rfl | (simp only [go_sem, fb4, fb5]; done) | (simp only [go_sem, fb4, fb5]; rfl)⟩
  obtain ⟨m1, rfl⟩ := mustR_ok hm
  refine Zy ?_
  refine Zp 2 ?_
  refine AWp.ret ?_
  apply endW_r [b4, b5] [] [b] [] (by (try simp only [go_sem, fb4, fb5]) <;> rfl)
  · rw [cd_l hd0 hw hk, hy, Rd.bind_ok, hm, Rd.bind_ok]
    exact ⟨rfl, by first | rfl | (simp only [go_sem, fb4, fb5]; done) | (simp only [go_sem, fb4, fb5]; rfl)⟩
  · simp [LeA, LeL, LeD, cmdV, cmdA, tstA, kidsD, kidsL_eq, tst0, Tst.kind, Tst.mat, Tst.part, Tst.names, Tst.keys, Tst.over, Tst.limit, Cmd.kind, Cmd.texts, Cmd.test, thnD, elsD, cmdsL]
 have hk : ¬ (aw = 1 ∨ aw = 8 ∨ aw = 9) := by omega
 refine Zs (Zp 47 ?_)
 refine Zy ?_
 apply Za (z := (_ || (_ || _))) 7 40
 ·
  refine AWp.cond _ rfl (fun hc5 => ?_) fun hc5 => ?_
  rotate_left
  ·
   refine Zp 31 ?_
   refine AWp.cond _ rfl (fun hc6 => ?_) fun hc6 => ?_
   rotate_left
   ·
    refine Zr (thenQ_n ?_)
    refine Zf 7 16 (.e ⟨EqS.bo (or_f hc5 (or_f hc6 rfl)), ⟨rfl⟩⟩)
   refine AWp.skip (thenQ_n ?_)
   refine Zf 7 16 (.e ⟨EqS.bo (or_f hc5 (or_t hc6)), ⟨rfl⟩⟩)
  refine AWp.skip (thenQ_n ?_)
  refine Zf 7 16 (.e ⟨EqS.bo (or_t hc5), ⟨rfl⟩⟩)
 refine Zy ?_
 refine Zc (fun hc7 => ?_) fun hc7 => ?_
 ·
  have hk2 : aw = 5 ∨ aw = 6 ∨ aw = 7 := by omega
  refine AWp.cutk 3 fun K_ hK_ => ?_
  simp only [List.take_succ_cons, List.take_zero, List.drop_succ_cons, List.drop_zero]
  refine Zy ?_
  refine ZA [b] [] (snext_c T b l (i + 1) _ _ 4 (by omega)) ?_
  rintro _ _ hR
  rcases hR.cs (nextR_oof _ _ _) with ⟨jz, ez, hz, rfl, rfl⟩ | ⟨az, jz, hz, rfl, rfl⟩
  ·
   intro _
   refine endW_p [b4, b5] [] [b] [] ?_
   obtain ⟨q1, rfl, rfl⟩ := nextR_er hz
   rw [cd_t hd0 hw hk2, hz, Rd.bind_er]
   exact ⟨rfl, by first | rfl | (simp only [go_sem, fb4, fb5]; done) | (simp only [go_sem, fb4, fb5]; rfl)⟩
  obtain ⟨z1, rfl, rfl⟩ := nextR_ok hz
  have zlt := nx_lt z1
  refine Zy ?_
  refine DW.bsO (he := by first | rfl | kernel_rfl) rfl rfl (show slI Tryz.prog 31 = some (9, 1, 16) by simp only [go_sem]) (by (try simp only [go_sem]) <;> rfl) rfl (by decide) fun t1 ft1 => ?_
  try simp only [freshT] at ft1
  simp only [go_sem, fb5]
  refine hK_ _ _ ?_
  refine blkQ_n (thenQ_n ?_)
  refine Zm 7 ?_
  refine Zx (Zy ?_)
  refine ZA [b] [] (smust_c T b l (i + 1 + 1) _ _ [59] (by omega)) ?_
  rintro _ _ hR
  rcases hR.cs (mustR_oof _ _ _) with ⟨jm, em, hm, rfl, rfl⟩ | ⟨am, jm, hm, rfl, rfl⟩
  ·
   intro _
   refine endW_p [b4, b5] [t1] [b] [] ?_
   rw [cd_t hd0 hw hk2, hz, Rd.bind_ok, hm, Rd.bind_er]
   exact ⟨rfl, by first | rfl | (simp only [go_sem, fb4, fb5]; done) | (simp only [go_sem, fb4, fb5, ft1]; rfl)⟩
  obtain ⟨m1, rfl⟩ := mustR_ok hm
  refine Zy ?_
  refine Zp 2 ?_
  refine AWp.ret ?_
  apply endW_r [b4, b5] [t1] [b] [] (by (try simp only [go_sem, fb4, fb5]) <;> rfl)
  · rw [cd_t hd0 hw hk2, hz, Rd.bind_ok, hm, Rd.bind_ok]
    exact ⟨rfl, by first | rfl | (simp only [go_sem, fb4, fb5]; done) | (simp only [go_sem, fb4, fb5, ft1]; rfl)⟩
  · simp [LeA, LeL, LeD, cmdV, cmdA, tstA, strD, kidsD, kidsL_eq, tst0, Tst.kind, Tst.mat, Tst.part, Tst.names, Tst.keys, Tst.over, Tst.limit, Cmd.kind, Cmd.texts, Cmd.test, thnD, elsD, cmdsL]
 have hk2 : ¬ aw = 2 ∧ ¬ (aw = 1 ∨ aw = 8 ∨ aw = 9) ∧ ¬ (aw = 5 ∨ aw = 6 ∨ aw = 7) := ⟨by omega, hk, by omega⟩
 refine AWp.skip (blkQ_n (thenQ_n ?_))
 refine Zx (Zy ?_)
 refine ZA [b] [] (smust_c T b l (i + 1) _ _ [59] (by omega)) ?_
 rintro _ _ hR
 rcases hR.cs (mustR_oof _ _ _) with ⟨jm, em, hm, rfl, rfl⟩ | ⟨am, jm, hm, rfl, rfl⟩
 ·
  intro _
  refine endW_p [b4, b5] [] [b] [] ?_
  rw [cd_n hd0 hw hk2, hm, Rd.bind_er]
  exact ⟨rfl, by first | rfl | (simp only [go_sem, fb4, fb5]; done) | (simp only [go_sem, fb4, fb5]; rfl)⟩
 obtain ⟨m1, rfl⟩ := mustR_ok hm
 refine Zy ?_
 refine Zm 6 ?_
 refine Zp 1 ?_
 refine AWp.ret ?_
 apply endW_r [b4, b5] [] [b] [] (by (try simp only [go_sem, fb4, fb5]) <;> rfl)
 · rw [cd_n hd0 hw hk2, hm, Rd.bind_ok]
   exact ⟨rfl, by first | rfl | (simp only [go_sem, fb4, fb5]; done) | (simp only [go_sem, fb4, fb5]; rfl)⟩
 · simp [LeA, LeL, LeD, cmdV, cmdA, tstA, kidsD, kidsL_eq, tst0, Tst.kind, Tst.mat, Tst.part, Tst.names, Tst.keys, Tst.over, Tst.limit, Cmd.kind, Cmd.texts, Cmd.test, thnD, elsD, cmdsL]
end
section
attribute [local go_sem] rob tcast tkV tkA intV txV tstV cmdV cmdsV Bool.false_eq_true in
theorem block_s (T : Tbl) (nn : Nat) (ihc : ∀ m, m ≤ nn → ∀ (b : Nat) (l : List Tk) (i d : Nat) (F : List (Nat × Ob)) (L : List Nat), l.length ≤ 400 → i ≤ l.length → d ≤ 7 → cmdR m l i d ≠ .oof → AC Tryz.prog T 107 [.ptr b 2 0 0, .d (.int .i64 (d : Nat))] ⟨rob b l i :: F, L⟩ (RD b F L l cmdV (cmdR m l i d))) (b : Nat) (l : List Tk) (i d : Nat) (F : List (Nat × Ob)) (L : List Nat) (hl : l.length ≤ 400) (hi : i ≤ l.length) (hd7 : d ≤ 7) (hno : blockR (nn + 1) l i d ≠ .oof) : AC Tryz.prog T 238 [.ptr b 2 0 0, .d (.int .i64 (d : Nat))] (⟨rob b l i :: F, L⟩) (RD b F L l cmdsV (blockR (nn + 1) l i d)) := by
 refine ⟨Tryz.call238, ACalls.enterS Tryz.func238 rfl Tryz.ntmps238 rfl fun hb => ?_⟩
 simp only [go_sem, Tryz.results238]
 refine Zp 3 ?_
 refine Zx (Zy ?_)
 refine ZA [b] [] (smust_c T b l i _ _ [123] (by omega)) ?_
 rintro _ _ hR
 rcases hR.cs (mustR_oof _ _ _) with ⟨jm, em, hm, rfl, rfl⟩ | ⟨am, jm, hm, rfl, rfl⟩
 ·
  intro _
  refine endW_p [] [] [b] [] ?_
  rw [bl_e, hm, Rd.bind_er]
  exact ⟨rfl, by first | rfl | (simp only [go_sem, ]; done) | (simp only [go_sem, ]; rfl)⟩
 obtain ⟨m1, rfl⟩ := mustR_ok hm
 refine Zy ?_
 refine Zp 7 ?_
 refine Zs (AWp.block (Zy ?_))
 have mlt := isT_lt m1
 refine AWp.ownNilS 5 12 rfl rfl (by decide) fun w0 fw0 => ?_
 try simp only [freshT] at fw0
 refine Zy ?_
 refine Zl 3 4 (fun n lc hc => ∃ (j m w : Nat) (acc : List Cmd), n = 2 * m ∧ EqS lc [(5, .own w 12 (acc.map cmdD))] ∧ EqS hc (⟨rob b l j :: F, w :: L⟩) ∧ (j ≤ l.length) ∧ (m ≤ nn) ∧ (acc.length ≤ j) ∧ (blockR (nn + 1) l i d = cmdsR m l j d acc) ∧ (cmdsR m l j d acc ≠ .oof) ∧ (freshT w L)) ?_ ?_
 · refine ⟨_, (i + 1), nn, w0, [], rfl, ZE, ZE, ?_, ?_, ?_, ?_, ?_, ?_⟩
   all_goals (first | omega | (simp; done) | (show blockR (nn + 1) l i d = cmdsR nn l (i + 1) d []; rw [bl_e, hm, Rd.bind_ok]) | (show cmdsR nn l (i + 1) d [] ≠ .oof; have h9 := hno; rw [bl_e, hm, Rd.bind_ok] at h9; exact h9) | exact fw0 | simp)
 rintro _ _ _ ⟨j, m, w, acc, rfl, ⟨rfl⟩, ⟨rfl⟩, h1, h2, h3, h4, h5, h6⟩
 obtain ⟨m, rfl⟩ : ∃ m2, m = m2 + 1 := by cases m with | zero => exact absurd (by rw [cmdsR]) h5 | succ m => exact ⟨m, rfl⟩
 refine Zy ?_
 refine Zs (Zx (Zy ?_))
 refine ZA [b] [] (eat_c T b l (j) _ _ [125] (by omega)) ?_
 rintro _ _ ⟨rfl, rfl⟩
 refine Zy ?_
 refine Zc (fun hc0 => ?_) fun hc0 => ?_
 ·
  refine Zk ?_
  refine AWp.block (Zq fun K_ k_ => ?_)
  simp only [go_sem, hc0, if_false, eq_self, if_true]
  have hno2 : cmdR m l j d ≠ .oof := by have := h5; rw [cs_f hc0] at this; exact Rd.bind_no this
  refine DW.acp [b] [] rfl rfl rfl rfl (by (try simp only [go_sem, eq_self, if_true]) <;> rfl) rfl (ihc m (by omega) b l j d _ _ hl (by omega) hd7 hno2) ?_
  rintro _ _ hR
  rcases hR.cs hno2 with ⟨jx, ex, hx, rfl, rfl⟩ | ⟨ax, jx, hx, rfl, rfl⟩
  ·
   intro _
   simp only [thenQ, blkQ]
   refine endW_p [] [w] [b] [] ?_
   rw [h4, cs_f hc0, hx, Rd.bind_er]
   exact ⟨rfl, by first | rfl | (simp only [go_sem, eq_self, if_true]; done) | (simp only [go_sem, fw0, h6, hc0, if_false, eq_self, if_true]; rfl)⟩
  have lx := (cmd_le m).1 _ _ _ _ _ hx
  simp only [go_sem, *]
  refine ZW fun t1 ft1 => ?_
  try simp only [freshT] at ft1
  simp only [go_sem, *]
  refine k_ _ _ (blkQ_n (thenQ_n ?_))
  refine Ze 3 4 [] [] [b] [t1] (.e ⟨_, ZM, jx, m, t1, (acc ++ [ax]), rfl, ?_, ZE, ?_, ?_, ?_, ?_, ?_, ?_⟩)
  · (try simp only [go_sem, if_false, eq_self, if_true]) <;> first | exact ⟨rfl⟩ | (constructor; simp [cmdD, tstD]; done)
  · omega
  · omega
  · simp; omega
  · rw [h4, cs_f hc0, hx, Rd.bind_ok]
  · have h9 := h5; rw [cs_f hc0, hx, Rd.bind_ok] at h9; exact h9
  · first | exact ft1 | exact ft1.2
 refine AWp.exit (thenQ_e (thenQ_e (blkQ_e (thenQ_n ?_))))
 refine Zm 4 ?_
 refine Zp 1 ?_
 refine AWp.ret ?_
 apply endW_r [] [w] [b] [] (by (try simp only [go_sem, if_false, eq_self, if_true]) <;> rfl)
 · rw [h4, cs_t hc0]
   exact ⟨rfl, by first | rfl | (simp only [go_sem, hc0, eq_self, if_true]; done) | (simp only [go_sem, fw0, h6, hc0, if_false, eq_self, if_true]; rfl)⟩
 · simp [LeA, cmdsV]
attribute [local go_sem] rob tcast tkV tkA intV txV tstV cmdV cmdsV in
theorem branch_s (T : Tbl) (hS : ScT T) (nn : Nat) (ihb : ∀ m, m ≤ nn → ∀ (b : Nat) (l : List Tk) (i d : Nat) (F : List (Nat × Ob)) (L : List Nat), l.length ≤ 400 → i ≤ l.length → d ≤ 7 → blockR m l i d ≠ .oof → AC Tryz.prog T 238 [.ptr b 2 0 0, .d (.int .i64 (d : Nat))] ⟨rob b l i :: F, L⟩ (RD b F L l cmdsV (blockR m l i d))) (ihr : ∀ m, m ≤ nn → ∀ (b : Nat) (l : List Tk) (i d : Nat) (F : List (Nat × Ob)) (L : List Nat), l.length ≤ 400 → i ≤ l.length → d ≤ 6 → branchR m l i d ≠ .oof → AC Tryz.prog T 177 [.ptr b 2 0 0, .d (.int .i64 (d : Nat))] ⟨rob b l i :: F, L⟩ (RD b F L l cmdV (branchR m l i d))) (b : Nat) (l : List Tk) (i d : Nat) (F : List (Nat × Ob)) (L : List Nat) (hl : l.length ≤ 400) (hi : i ≤ l.length) (hd7 : d ≤ 6) (hno : branchR (nn + 1) l i d ≠ .oof) : AC Tryz.prog T 177 [.ptr b 2 0 0, .d (.int .i64 (d : Nat))] (⟨rob b l i :: F, L⟩) (RD b F L l cmdV (branchR (nn + 1) l i d)) := by
 refine ⟨Tryz.call177, ACalls.enterS Tryz.func177 rfl Tryz.ntmps177 rfl fun hb => ?_⟩
 simp only [go_sem, Tryz.results177]
 refine Zx (Zy ?_)
 intro b4
 first | intro fb4 | have fb4 := True.intro
 try simp only [freshL] at fb4
 refine Zx (Zy ?_)
 have hno2 : testR nn l i 1 ≠ .oof := by have := hno; rw [br_e] at this; exact Rd.bind_no this
 refine ZA [b] [] (test_c T hS nn b l i 1 _ _ hl (by omega) (by decide) hno2) ?_
 rintro _ _ hR
 rcases hR.cs hno2 with ⟨jq, eq, hq, rfl, rfl⟩ | ⟨aq, jq, hq, rfl, rfl⟩
 ·
  intro _
  refine endW_p [b4] [] [b] [] ?_
  rw [br_e, hq, Rd.bind_er]
  exact ⟨rfl, by first | rfl | (simp only [go_sem, fb4]; done) | (simp only [go_sem, fb4]; rfl)⟩
 have lq := (test_le nn).1 _ _ _ _ _ hq
 refine Zy ?_
 (repeat (with_reducible refine And.intro ZS ?_))
 have hno3 : blockR nn l jq (d + 1) ≠ .oof := by have := hno; rw [br_e, hq, Rd.bind_ok] at this; exact Rd.bind_no this
 refine DW.acp [b] [] rfl rfl rfl rfl (by (try simp only [go_sem, fb4]) <;> rfl) rfl (ihb nn (Nat.le_refl _) b l jq (d + 1) _ _ hl (by omega) (by omega) hno3) ?_
 rintro _ _ hR
 rcases hR.cs hno3 with ⟨jx, ex, hx, rfl, rfl⟩ | ⟨ax, jx, hx, rfl, rfl⟩
 ·
  intro _
  refine endW_p [b4] [] [b] [] ?_
  rw [br_e, hq, Rd.bind_ok, hx, Rd.bind_er]
  exact ⟨rfl, by first | rfl | (simp only [go_sem, fb4]; done) | (simp only [go_sem, fb4]; rfl)⟩
 have lx := (cmd_le nn).2.1 _ _ _ _ _ hx
 refine Zy ?_
 intro b5
 first | intro fb5 | have fb5 := True.intro
 try simp only [freshL] at fb5
 refine Zm 15 ?_
 refine Zs (AWp.block (Zx (Zy ?_)))
 refine ZA [b] [] (is_c T b l jx _ _ _ _) ?_
 rintro _ _ ⟨rfl, rfl⟩
 refine Zy ?_
 refine Zc (fun hc0 => ?_) fun hc0 => ?_
 ·
  have jlt := isT_lt hc0
  refine Zp 15 ?_
  refine AWp.cutk 3 fun K_ hK_ => ?_
  simp only [List.take_succ_cons, List.take_zero, List.drop_succ_cons, List.drop_zero]
  refine Zy ?_
  have hno4 : branchR nn l (jx + 1) d ≠ .oof := by have := hno; rw [br_e, hq, Rd.bind_ok, hx, Rd.bind_ok, if_pos (show isT l jx 1 elsifT = true from hc0)] at this; exact Rd.bind_no this
  refine ZA [b] [] (ihr nn (Nat.le_refl _) b l (jx + 1) d _ _ hl (by omega) hd7 hno4) ?_
  rintro _ _ hR
  rcases hR.cs hno4 with ⟨jy, ey, hy, rfl, rfl⟩ | ⟨ay, jy, hy, rfl, rfl⟩
  ·
   intro _
   refine endW_p [b4, b5] [] [b] [] ?_
   rw [br_e, hq, Rd.bind_ok, hx, Rd.bind_ok, if_pos (show isT l jx 1 elsifT = true from hc0), hy, Rd.bind_er]
   exact ⟨rfl, by first | rfl | (simp only [go_sem, fb4, fb5]; done) | (simp only [go_sem, fb4, fb5]; rfl)⟩
  refine Zy ?_
  refine DW.bsO (he := by first | rfl | kernel_rfl) rfl rfl (show slI Tryz.prog 22 = some (65, 12, 192) by simp only [go_sem]) (by (try simp only [go_sem]) <;> rfl) rfl (by decide) fun t1 ft1 => ?_
  try simp only [freshT] at ft1
  simp only [go_sem, fb5]
  refine hK_ _ _ ?_
  refine blkQ_n (thenQ_n ?_)
  refine Zm 12 ?_
  refine Zp 1 ?_
  refine AWp.ret ?_
  apply endW_r [b4, b5] [t1] [b] [] (by (try simp only [go_sem, fb4, fb5]) <;> rfl)
  · rw [br_e, hq, Rd.bind_ok, hx, Rd.bind_ok, if_pos (show isT l jx 1 elsifT = true from hc0), hy, Rd.bind_ok]
    exact ⟨rfl, by first | rfl | (simp only [go_sem, fb4, fb5]; done) | (simp only [go_sem, fb4, fb5, ft1]; rfl)⟩
  · simp [LeA, LeL, LeD, cmdV, cmdA, tstA, tstD, Tst.kind, Tst.mat, Tst.part, Tst.names, Tst.keys, Tst.over, Tst.limit, Cmd.kind, Cmd.texts, Cmd.test, thnD, elsD, cmdsL, cmdsL_eq]
 refine Zx (Zy ?_)
 refine ZA [b] [] (is_c T b l jx _ _ _ _) ?_
 rintro _ _ ⟨rfl, rfl⟩
 refine Zy ?_
 refine Zm 143 ?_
 refine Zc (fun hc1 => ?_) fun hc1 => ?_
 ·
  have jlt := isT_lt hc1
  refine Zp 15 ?_
  refine Zq fun K_ k_ => ?_
  refine Zy ?_
  (repeat (with_reducible refine And.intro ZS ?_))
  have hno4 : blockR nn l (jx + 1) (d + 1) ≠ .oof := by have := hno; rw [br_e, hq, Rd.bind_ok, hx, Rd.bind_ok, if_neg (show ¬ isT l jx 1 elsifT = true from fun h9 => by rw [show isT l jx 1 elsifT = false from hc0] at h9; cases h9), if_pos (show isT l jx 1 elseT = true from hc1)] at this; exact Rd.bind_no this
  refine DW.acp [b] [] rfl rfl rfl rfl (by (try simp only [go_sem, fb4, fb5]) <;> rfl) rfl (ihb nn (Nat.le_refl _) b l (jx + 1) (d + 1) _ _ hl (by omega) (by omega) hno4) ?_
  rintro _ _ hR
  rcases hR.cs hno4 with ⟨jy, ey, hy, rfl, rfl⟩ | ⟨ay, jy, hy, rfl, rfl⟩
  ·
   intro _
   simp only [thenQ, blkQ]
   refine endW_p [b4, b5] [] [b] [] ?_
   rw [br_e, hq, Rd.bind_ok, hx, Rd.bind_ok, if_neg (show ¬ isT l jx 1 elsifT = true from fun h9 => by rw [show isT l jx 1 elsifT = false from hc0] at h9; cases h9), if_pos (show isT l jx 1 elseT = true from hc1), hy, Rd.bind_er]
   exact ⟨rfl, by first | rfl | (simp only [go_sem, fb4, fb5]; done) | (simp only [go_sem, fb4, fb5]; rfl)⟩
  simp only [go_sem, fb5]
  refine k_ _ _ (blkQ_n (thenQ_n ?_))
  refine Zm 12 ?_
  refine Zp 1 ?_
  refine AWp.ret ?_
  apply endW_r [b4, b5] [] [b] [] (by (try simp only [go_sem, fb4, fb5]) <;> rfl)
  · rw [br_e, hq, Rd.bind_ok, hx, Rd.bind_ok, if_neg (show ¬ isT l jx 1 elsifT = true from fun h9 => by rw [show isT l jx 1 elsifT = false from hc0] at h9; cases h9), if_pos (show isT l jx 1 elseT = true from hc1), hy, Rd.bind_ok]
    exact ⟨rfl, by first | rfl | (simp only [go_sem, fb4, fb5]; done) | (simp only [go_sem, fb4, fb5]; rfl)⟩
  · simp [LeA, LeL, LeD, cmdV, cmdA, tstA, Tst.kind, Tst.mat, Tst.part, Tst.names, Tst.keys, Tst.over, Tst.limit, Cmd.kind, Cmd.texts, Cmd.test, thnD, elsD, cmdsL_eq]
 refine AWp.skip (blkQ_n (thenQ_n ?_))
 refine Zp 4 ?_
 refine AWp.ret ?_
 apply endW_r [b4, b5] [] [b] [] (by (try simp only [go_sem, fb4, fb5]) <;> rfl)
 · rw [br_e, hq, Rd.bind_ok, hx, Rd.bind_ok, if_neg (show ¬ isT l jx 1 elsifT = true from fun h9 => by rw [show isT l jx 1 elsifT = false from hc0] at h9; cases h9), if_neg (show ¬ isT l jx 1 elseT = true from fun h9 => by rw [show isT l jx 1 elseT = false from hc1] at h9; cases h9)]
   exact ⟨rfl, by first | rfl | (simp only [go_sem, fb4, fb5]; done) | (simp only [go_sem, fb4, fb5]; rfl)⟩
 · simp [LeA, LeL, LeD, cmdV, cmdA, tstA, Tst.kind, Tst.mat, Tst.part, Tst.names, Tst.keys, Tst.over, Tst.limit, Cmd.kind, Cmd.texts, Cmd.test, thnD, elsD, cmdsL, cmdsL_eq]
end
section
open Go.RowKit
abbrev CmdT (T : Tbl) (n : Nat) : Prop := ∀ (b : Nat) (l : List Tk) (i d : Nat) (F : List (Nat × Ob)) (L : List Nat), l.length ≤ 400 → i ≤ l.length → d ≤ 7 → cmdR n l i d ≠ .oof → AC Tryz.prog T 107 [.ptr b 2 0 0, .d (.int .i64 (d : Nat))] ⟨rob b l i :: F, L⟩ (RD b F L l cmdV (cmdR n l i d))
abbrev BlkT (T : Tbl) (n : Nat) : Prop := ∀ (b : Nat) (l : List Tk) (i d : Nat) (F : List (Nat × Ob)) (L : List Nat), l.length ≤ 400 → i ≤ l.length → d ≤ 7 → blockR n l i d ≠ .oof → AC Tryz.prog T 238 [.ptr b 2 0 0, .d (.int .i64 (d : Nat))] ⟨rob b l i :: F, L⟩ (RD b F L l cmdsV (blockR n l i d))
abbrev BraT (T : Tbl) (n : Nat) : Prop := ∀ (b : Nat) (l : List Tk) (i d : Nat) (F : List (Nat × Ob)) (L : List Nat), l.length ≤ 400 → i ≤ l.length → d ≤ 6 → branchR n l i d ≠ .oof → AC Tryz.prog T 177 [.ptr b 2 0 0, .d (.int .i64 (d : Nat))] ⟨rob b l i :: F, L⟩ (RD b F L l cmdV (branchR n l i d))
theorem cmd_n (T : Tbl) (hS : ScT T) : ∀ (n m : Nat), m ≤ n → CmdT T m ∧ BlkT T m ∧ BraT T m := by
 intro n
 induction n with
 | zero =>
  intro m hm
  obtain rfl : m = 0 := by omega
  exact ⟨fun b l i d F L hl hi hd hno => absurd (by rw [cmdR]) hno, fun b l i d F L hl hi hd hno => absurd (by rw [blockR]) hno, fun b l i d F L hl hi hd hno => absurd (by rw [branchR]) hno⟩
 | succ n ih =>
  intro m hm
  cases m with
  | zero => exact ⟨fun b l i d F L hl hi hd hno => absurd (by rw [cmdR]) hno, fun b l i d F L hl hi hd hno => absurd (by rw [blockR]) hno, fun b l i d F L hl hi hd hno => absurd (by rw [branchR]) hno⟩
  | succ m =>
   refine ⟨fun b l i d F L hl hi hd hno => ?_, fun b l i d F L hl hi hd hno => ?_, fun b l i d F L hl hi hd hno => ?_⟩
   ·exact command_s T hS m (fun q h2 => (ih q (by omega)).2.2) b l i d F L hl hi hd hno
   ·exact block_s T m (fun q h2 => (ih q (by omega)).1) b l i d F L hl hi hd hno
   ·exact branch_s T hS m (fun q h2 => (ih q (by omega)).2.1) (fun q h2 => (ih q (by omega)).2.2) b l i d F L hl hi hd hno
theorem command_c (T : Tbl) (hS : ScT T) (n : Nat) : CmdT T n := (cmd_n T hS n n (Nat.le_refl _)).1
theorem Rd.bind_ne {α β : Type} {r : Rd α} {f : α → Nat → Rd β} (h1 : r ≠ .oof) (h2 : ∀ a j, r = .ok a j → f a j ≠ .oof) : r.bind f ≠ .oof := by
 cases r with
 | ok a i => exact h2 a i rfl
 | err i e => exact fun h => by cases h
 | oof => exact absurd rfl h1
theorem ok_ne {α : Type} {a : α} {i : Nat} : (Rd.ok a i : Rd α) ≠ .oof := fun h => by cases h
theorem er_ne {α : Type} {i : Nat} {e : Int} : (Rd.err i e : Rd α) ≠ .oof := fun h => by cases h
theorem test_ne : ∀ n, (∀ l i d, l.length + 1 - i ≤ n → i ≤ l.length → testR n l i d ≠ .oof) ∧ (∀ l i d k acc, l.length + 1 - i ≤ n → i ≤ l.length → testsR n l i d k acc ≠ .oof)
 | 0 => ⟨fun l i d h hi => (by omega), fun l i d k acc h hi => (by omega)⟩
 | n + 1 => by
  obtain ⟨h1, h2⟩ := test_ne n
  refine ⟨fun l i d hn hi => ?_, fun l i d k acc hn hi => ?_⟩
  ·rw [testR]
   split
   ·exact er_ne
   refine Rd.bind_ne (wordR_oof _ _ _) fun k j hw => ?_
   obtain ⟨w1, _, _, rfl⟩ := wordR_ok hw
   have wl := nx_lt w1
   split
   ·exact Rd.bind_ne (h1 _ _ _ (by omega) (by omega)) fun a j1 h3 => ok_ne
   split
   ·refine Rd.bind_ne (mustR_oof _ _ _) fun a j1 h3 => ?_
    obtain ⟨m1, rfl⟩ := mustR_ok h3
    have ml := isT_lt m1
    refine Rd.bind_ne (h1 _ _ _ (by omega) (by omega)) fun a2 j2 h4 => ?_
    have := (test_le n).1 _ _ _ _ _ h4
    exact h2 _ _ _ _ _ (by omega) (by omega)
   split
   ·exact Rd.bind_ne (tagS_oof _ _ _ _ _) fun a j1 h3 => Rd.bind_ne (strsR_oof _ _) fun a2 j2 h4 => Rd.bind_ne (strsR_oof _ _) fun a2 j2 h4 => ok_ne
   split
   ·exact Rd.bind_ne (strsR_oof _ _) fun a2 j2 h4 => ok_ne
   split
   ·split
    ·exact Rd.bind_ne (nextR_oof _ _ _) fun a2 j2 h4 => ok_ne
    ·exact er_ne
   ·exact ok_ne
  ·rw [testsR]
   split
   ·rename_i h5
    have := isT_lt h5
    refine Rd.bind_ne (h1 _ _ _ (by omega) (by omega)) fun a2 j2 h4 => ?_
    have := (test_le n).1 _ _ _ _ _ h4
    exact h2 _ _ _ _ _ (by omega) (by omega)
   ·exact Rd.bind_ne (mustR_oof _ _ _) fun a j1 h3 => ok_ne
theorem cmd_ne : ∀ n, (∀ l i d, 2 * (l.length - i) + 1 ≤ n → i ≤ l.length → cmdR n l i d ≠ .oof) ∧ (∀ l i d, 2 * (l.length - i) + 2 ≤ n → i ≤ l.length → blockR n l i d ≠ .oof) ∧ (∀ l i d acc, 2 * (l.length - i) + 2 ≤ n → i ≤ l.length → cmdsR n l i d acc ≠ .oof) ∧ (∀ l i d, 2 * (l.length - i) + 2 ≤ n → i ≤ l.length → branchR n l i d ≠ .oof)
 | 0 => ⟨fun l i d h hi => (by omega), fun l i d h hi => (by omega), fun l i d acc h hi => (by omega), fun l i d h hi => (by omega)⟩
 | n + 1 => by
  obtain ⟨h1, h2, h3, h4⟩ := cmd_ne n
  refine ⟨fun l i d hn hi => ?_, fun l i d hn hi => ?_, fun l i d acc hn hi => ?_, fun l i d hn hi => ?_⟩
  ·rw [cmdR]
   split
   ·exact er_ne
   refine Rd.bind_ne (wordR_oof _ _ _) fun k j hw => ?_
   obtain ⟨w1, _, _, rfl⟩ := wordR_ok hw
   have wl := nx_lt w1
   split
   ·exact h4 _ _ _ (by omega) (by omega)
   split
   ·exact Rd.bind_ne (strsR_oof _ _) fun a j1 h5 => Rd.bind_ne (mustR_oof _ _ _) fun a2 j2 h6 => ok_ne
   split
   ·exact Rd.bind_ne (nextR_oof _ _ _) fun a j1 h5 => Rd.bind_ne (mustR_oof _ _ _) fun a2 j2 h6 => ok_ne
   ·exact Rd.bind_ne (mustR_oof _ _ _) fun a2 j2 h6 => ok_ne
  ·rw [blockR]
   refine Rd.bind_ne (mustR_oof _ _ _) fun a j1 h5 => ?_
   obtain ⟨m1, rfl⟩ := mustR_ok h5
   have ml := isT_lt m1
   exact h3 _ _ _ _ (by omega) (by omega)
  ·rw [cmdsR]
   split
   ·exact ok_ne
   ·refine Rd.bind_ne (h1 _ _ _ (by omega) (by omega)) fun a j1 h5 => ?_
    have := (cmd_le n).1 _ _ _ _ _ h5
    exact h3 _ _ _ _ (by omega) (by omega)
  ·rw [branchR]
   refine Rd.bind_ne ((test_ne n).1 _ _ _ (by omega) (by omega)) fun a j1 h5 => ?_
   have := (test_le n).1 _ _ _ _ _ h5
   refine Rd.bind_ne (h2 _ _ _ (by omega) (by omega)) fun a2 j2 h6 => ?_
   have := (cmd_le n).2.1 _ _ _ _ _ h6
   split
   ·rename_i h7
    have := isT_lt h7
    exact Rd.bind_ne (h4 _ _ _ (by omega) (by omega)) fun a3 j3 h8 => ok_ne
   split
   ·rename_i h7
    have := isT_lt h7
    exact Rd.bind_ne (h2 _ _ _ (by omega) (by omega)) fun a3 j3 h8 => ok_ne
   ·exact ok_ne
def progR : Nat → List Tk → Nat → List Cmd → Rd (List Cmd)
 | 0, _, _, _ => .oof
 | n + 1, l, j, acc => if j < l.length then (cmdR n l j 0).bind fun c j1 => progR n l j1 (acc ++ [c]) else .ok acc j
theorem pg_t {n j : Nat} {l : List Tk} {acc : List Cmd} (h : j < l.length) : progR (n + 1) l j acc = (cmdR n l j 0).bind fun c j1 => progR n l j1 (acc ++ [c]) := by rw [progR, if_pos h]
theorem pg_f {n j : Nat} {l : List Tk} {acc : List Cmd} (h : l.length ≤ j) : progR (n + 1) l j acc = .ok acc j := by rw [progR, if_neg (by omega)]
theorem prog_ne : ∀ n l j acc, 2 * (l.length - j) + 2 ≤ n → j ≤ l.length → progR n l j acc ≠ .oof
 | 0, l, j, acc, hn, hj => by omega
 | n + 1, l, j, acc, hn, hj => by
  rw [progR]
  split
  ·refine Rd.bind_ne ((cmd_ne n).1 _ _ _ (by omega) (by omega)) fun a j1 h5 => ?_
   have := (cmd_le n).1 _ _ _ _ _ h5
   exact prog_ne n _ _ _ (by omega) (by omega)
  ·exact ok_ne
end
section
def pob (b : Nat) (l : List Tk) (f e : Int) : Nat × Ob := (b, ⟨3, 1, [[.d (.slc 3 (tksD l)), .d (.int .i64 f), .d (.int .i64 e)]]⟩)
attribute [go_sem] pob
def RR {α : Type} (l : List Tk) : Rd α → α → Nat → Int → Int → Prop
 | .ok a' i, a, n, f, e => a = a' ∧ n = i ∧ f = 0 ∧ e = 0
 | .err i e', _, _, f, e => f = i ∧ e = gv l i e' ∧ e ≠ 0
 | .oof, _, _, _, _ => True
def RE {α : Type} (B : Nat) (b : Nat) (F : List (Nat × Ob)) (L : List Nat) (l : List Tk) (f : α → Nat → AV) (r : Rd α) (x : AR) (h : AH) : Prop := ∃ a n ff e, x = .ret (f a n) ∧ h = ⟨pob b l ff e :: F, L⟩ ∧ n ≤ B ∧ RR l r a n ff e
section
variable {α β : Type} {l : List Tk} {r : Rd α} {a : α} {n : Nat} {f e : Int}
theorem RR.ok0 (H : RR l r a n f e) (hn : r ≠ .oof) (h : e = 0) : r = .ok a n ∧ f = 0 := by
 cases r with
 | ok a' i => obtain ⟨rfl, rfl, rfl, _⟩ := H; exact ⟨rfl, rfl⟩
 | err i e' => exact absurd h H.2.2
 | oof => exact absurd rfl hn
theorem RR.er0 (H : RR l r a n f e) (hn : r ≠ .oof) (h : ¬ e = 0) : ∃ i e', r = .err i e' ∧ f = (i : Int) ∧ e = gv l i e' := by
 cases r with
 | ok a' i => exact absurd H.2.2.2 h
 | err i e' => exact ⟨i, e', rfl, H.1, H.2.1⟩
 | oof => exact absurd rfl hn
theorem RR.ok_ (a : α) (n : Nat) : RR l (.ok a n) a n 0 0 := ⟨rfl, rfl, rfl, rfl⟩
theorem RR.er_ {i : Nat} {e' : Int} (a : α) (n : Nat) (h : gv l i e' ≠ 0) : RR l (.err i e') a n i (gv l i e') := ⟨rfl, rfl, h⟩
theorem RR.thru {g : α → Nat → Rd β} (H : RR l r a n f e) (hn : r ≠ .oof) (h : ¬ e = 0) (y : β) (m : Nat) : RR l (r.bind g) y m f e := by
 cases r with
 | ok a' i => exact absurd H.2.2.2 h
 | err i e' => exact H
 | oof => exact absurd rfl hn
end
theorem gv_ne {l : List Tk} {i : Nat} {e : Int} (h : e ≠ 0) : gv l i e ≠ 0 := by unfold gv; split <;> omega
attribute [local go_sem] pob in
theorem pstop_c (T : Tbl) (b : Nat) (l : List Tk) (i : Nat) (F : List (Nat × Ob)) (L : List Nat) (e : Int) (he : e ≠ 0) : AC Tryz.prog T 188 [.ptr b 3 0 0, .d (.int .i64 (i : Nat)), .d (.int .i64 e)] (⟨pob b l 0 0 :: F, L⟩) (fun x h => x = .ret (.d (.int .i64 (i : Nat))) ∧ h = ⟨pob b l i (gv l i e) :: F, L⟩) := by
 refine ⟨Tryz.call188, ACalls.enterS Tryz.func188 rfl Tryz.ntmps188 rfl fun hb => ?_⟩
 simp only [go_sem, Tryz.results188]
 refine Zp 7 ?_
 refine Zs (Zp 135 ?_)
 refine Zc (fun hc0 => ?_) fun hc0 => ?_
 ·
  refine Zp 7 ?_
  refine Zp 3 ?_
  refine Zp 259 ?_
  refine Zc (fun hc1 => ?_) fun hc1 => ?_
  ·
   have hg : gv l i e = 4 := by rw [gv, if_pos (by omega)]
   refine Zr (thenQ_n ?_)
   refine Zm 2 ?_
   refine Zp 2 ?_
   refine AWp.ret ?_
   apply endW_r [] [] [b] [] (by (try simp only [go_sem]) <;> rfl)
   · refine ⟨rfl, ?_⟩
     simp only [go_sem, hg]
   · simp [LeA, LeD]
  have hg : gv l i e = e := by rw [gv, if_neg (by omega)]
  refine Zk ?_
  refine Zp 4 ?_
  refine AWp.ret ?_
  apply endW_r [] [] [b] [] (by (try simp only [go_sem]) <;> rfl)
  · refine ⟨rfl, ?_⟩
    simp only [go_sem, hg]
  · simp [LeA, LeD]
 exact absurd hc0 (by simp)
attribute [local go_sem] pob tkD in
theorem pisMark_in (T : Tbl) (b : Nat) (l : List Tk) (i : Nat) (f e : Int) (F : List (Nat × Ob)) (L : List Nat) (s : Tx) (hl : i < l.length) : AC Tryz.prog T 243 [.ptr b 3 0 0, .d (.int .i64 (i : Nat)), .d (.str s)] (⟨pob b l f e :: F, L⟩) (fun x h => x = .ret (.d (.bool (isT l i 5 s))) ∧ h = ⟨pob b l f e :: F, L⟩) := by
 refine ⟨Tryz.call243, ACalls.enterS Tryz.func243 rfl Tryz.ntmps243 rfl fun hb => ?_⟩
 have hlt : ((i : Int) < (l.length : Int)) = True := by simp; omega
 have hgd := tksD_gD l i [] hl
 simp only [go_sem, Tryz.results243]
 refine Zp 7 ?_
 refine Zp 8 ?_
 refine AWp.ret ?_
 apply endW_r [] [] [b] [] (by (try simp only [go_sem]) <;> rfl)
 · refine ⟨rfl, by simp only [go_sem]⟩
 · simp only [LeA, LeD]
   simp [isT, hl, List.getD]
attribute [local go_sem] pob decide_false Bool.false_and Bool.false_eq_true true_and and_true in
theorem pisMark_out (T : Tbl) (b : Nat) (l : List Tk) (i : Nat) (f e : Int) (F : List (Nat × Ob)) (L : List Nat) (s : Tx) (hl : l.length ≤ i) : AC Tryz.prog T 243 [.ptr b 3 0 0, .d (.int .i64 (i : Nat)), .d (.str s)] (⟨pob b l f e :: F, L⟩) (fun x h => x = .ret (.d (.bool (isT l i 5 s))) ∧ h = ⟨pob b l f e :: F, L⟩) := by
 refine ⟨Tryz.call243, ACalls.enterS Tryz.func243 rfl Tryz.ntmps243 rfl fun hb => ?_⟩
 have hlt : ((i : Int) < (l.length : Int)) = False := by simp; omega
 simp only [go_sem, Tryz.results243]
 refine Zp 7 ?_
 refine Zp 8 ?_
 refine AWp.ret ?_
 apply endW_r [] [] [b] [] (by (try simp only [go_sem]) <;> rfl)
 · refine ⟨rfl, by simp only [go_sem]⟩
 · simp only [LeA, LeD]
   simp [isT, Nat.not_lt.2 hl]
theorem pisMark_c (T : Tbl) (b : Nat) (l : List Tk) (i : Nat) (f e : Int) (F : List (Nat × Ob)) (L : List Nat) (s : Tx) : AC Tryz.prog T 243 [.ptr b 3 0 0, .d (.int .i64 (i : Nat)), .d (.str s)] ⟨pob b l f e :: F, L⟩ (fun x h => x = .ret (.d (.bool (isT l i 5 s))) ∧ h = ⟨pob b l f e :: F, L⟩) := by
 rcases Nat.lt_or_ge i l.length with h | h
 ·exact pisMark_in T b l i f e F L s h
 ·exact pisMark_out T b l i f e F L s h
attribute [local go_sem] pob tkD in
theorem pisWord_in (T : Tbl) (b : Nat) (l : List Tk) (i : Nat) (f e : Int) (F : List (Nat × Ob)) (L : List Nat) (s : Tx) (hl : i < l.length) : AC Tryz.prog T 189 [.ptr b 3 0 0, .d (.int .i64 (i : Nat)), .d (.str s)] (⟨pob b l f e :: F, L⟩) (fun x h => x = .ret (.d (.bool (isT l i 1 s))) ∧ h = ⟨pob b l f e :: F, L⟩) := by
 refine ⟨Tryz.call189, ACalls.enterS Tryz.func189 rfl Tryz.ntmps189 rfl fun hb => ?_⟩
 have hlt : ((i : Int) < (l.length : Int)) = True := by simp; omega
 have hgd := tksD_gD l i [] hl
 simp only [go_sem, Tryz.results189]
 refine Zp 7 ?_
 refine Zp 8 ?_
 refine AWp.ret ?_
 apply endW_r [] [] [b] [] (by (try simp only [go_sem]) <;> rfl)
 · refine ⟨rfl, by simp only [go_sem]⟩
 · simp only [LeA, LeD]
   simp [isT, hl, List.getD]
attribute [local go_sem] pob decide_false Bool.false_and Bool.false_eq_true true_and and_true in
theorem pisWord_out (T : Tbl) (b : Nat) (l : List Tk) (i : Nat) (f e : Int) (F : List (Nat × Ob)) (L : List Nat) (s : Tx) (hl : l.length ≤ i) : AC Tryz.prog T 189 [.ptr b 3 0 0, .d (.int .i64 (i : Nat)), .d (.str s)] (⟨pob b l f e :: F, L⟩) (fun x h => x = .ret (.d (.bool (isT l i 1 s))) ∧ h = ⟨pob b l f e :: F, L⟩) := by
 refine ⟨Tryz.call189, ACalls.enterS Tryz.func189 rfl Tryz.ntmps189 rfl fun hb => ?_⟩
 have hlt : ((i : Int) < (l.length : Int)) = False := by simp; omega
 simp only [go_sem, Tryz.results189]
 refine Zp 7 ?_
 refine Zp 8 ?_
 refine AWp.ret ?_
 apply endW_r [] [] [b] [] (by (try simp only [go_sem]) <;> rfl)
 · refine ⟨rfl, by simp only [go_sem]⟩
 · simp only [LeA, LeD]
   simp [isT, Nat.not_lt.2 hl]
theorem pisWord_c (T : Tbl) (b : Nat) (l : List Tk) (i : Nat) (f e : Int) (F : List (Nat × Ob)) (L : List Nat) (s : Tx) : AC Tryz.prog T 189 [.ptr b 3 0 0, .d (.int .i64 (i : Nat)), .d (.str s)] ⟨pob b l f e :: F, L⟩ (fun x h => x = .ret (.d (.bool (isT l i 1 s))) ∧ h = ⟨pob b l f e :: F, L⟩) := by
 rcases Nat.lt_or_ge i l.length with h | h
 ·exact pisWord_in T b l i f e F L s h
 ·exact pisWord_out T b l i f e F L s h
end
section
open Go.RowKit
theorem ixS_get : ∀ (tab : List Tx) (t : Tx) (k : Nat), ixS tab t = k → tab.getD k [] = t
 | [], t, k, h => by simp [ixS] at h
 | x :: r, t, k, h => by
  have hg := ixS_ge r t
  unfold ixS at h
  split at h
  ·rename_i h1
   obtain rfl : k = 0 := by omega
   simp [h1]
  ·split at h
   ·omega
   ·cases k with
    | zero => omega
    | succ k =>
     have := ixS_get r t k (by omega)
     simpa using this
theorem ixS_nd : ∀ (tab : List Tx) (k : Nat), k < tab.length → tab.Nodup → ixS tab (tab.getD k []) = k
 | x :: r, 0, _, _ => by simp [ixS]
 | x :: r, k + 1, h, hn => by
  have hk : k < r.length := by simpa using h
  have hn2 := List.nodup_cons.1 hn
  have := ixS_nd r k hk hn2.2
  have hg : (x :: r).getD (k + 1) [] = r.getD k [] := by simp
  have hm : r.getD k [] ∈ r := by simp [List.getD, hk]
  rw [hg]
  have hx : ¬ r.getD k [] = x := fun h9 => hn2.1 (by rw [← h9]; exact hm)
  unfold ixS
  rw [if_neg hx, this, if_neg (by omega)]
  simp
theorem ixS_iff {tab : List Tx} {t : Tx} {k : Nat} (h : k < tab.length) (hn : tab.Nodup) : t = tab.getD k [] ↔ ixS tab t = k :=
 ⟨fun e => e ▸ ixS_nd tab k h hn, fun e => (ixS_get tab t k e).symm⟩
theorem cmT_nd : scmT.Nodup := by decide
theorem tsT_nd : tsT.Nodup := by decide
theorem mtT_nd : mtT.Nodup := by decide
theorem ptT_nd : ptT.Nodup := by decide
theorem isT_nx (l : List Tk) (i : Nat) (k : Int) (s : Tx) : isT l i k s = (nx l i k && decide ((l.getD i tk0).text = s)) := by
 simp [isT, nx, tk0, Bool.and_assoc]
def kdS (tab : List Tx) (l : List Tk) (i k : Nat) : Int := if nx l i 1 = true ∧ 0 < ixS tab (l.getD i tk0).text ∧ ixS tab (l.getD i tk0).text < k then ixS tab (l.getD i tk0).text else 0
theorem kdS_1 (tab : List Tx) (l : List Tk) (i : Nat) : kdS tab l i 1 = 0 := by unfold kdS; rw [if_neg (by omega)]
theorem kdS_t {tab : List Tx} {l : List Tk} {i k : Nat} (hn : tab.Nodup) (h0 : 0 < k) (hk : k < tab.length) (h : isT l i 1 (tab.getD k []) = true) : kdS tab l i (k + 1) = k := by
 rw [isT_nx, Bool.and_eq_true, decide_eq_true_eq] at h
 have h2 := (ixS_iff hk hn).1 h.2
 unfold kdS
 rw [if_pos ⟨h.1, by omega, by omega⟩, h2]
theorem kdS_f {tab : List Tx} {l : List Tk} {i k : Nat} (hn : tab.Nodup) (hk : k < tab.length) (h : isT l i 1 (tab.getD k []) = false) : kdS tab l i (k + 1) = kdS tab l i k := by
 rw [isT_nx] at h
 unfold kdS
 by_cases h1 : nx l i 1 = true
 ·have h2 : ¬ (l.getD i tk0).text = tab.getD k [] := fun h9 => by rw [h1, h9] at h; simp at h
  have h3 : ¬ ixS tab (l.getD i tk0).text = k := fun h9 => h2 ((ixS_iff hk hn).2 h9)
  by_cases h4 : 0 < ixS tab (l.getD i tk0).text ∧ ixS tab (l.getD i tk0).text < k
  ·rw [if_pos ⟨h1, by omega, by omega⟩, if_pos ⟨h1, h4⟩]
  ·rw [if_neg (by omega), if_neg (by omega)]
 ·rw [if_neg (fun h9 => h1 h9.1), if_neg (fun h9 => h1 h9.1)]
theorem kdS_ok {tab : List Tx} {l : List Tk} {i : Nat} (h : ¬ kdS tab l i tab.length = 0) : wordR l i tab = .ok (kdS tab l i tab.length) (i + 1) := by
 unfold kdS at h ⊢
 split at h
 ·rename_i h1
  rw [if_pos h1, wordR, if_pos ⟨h1.1, h1.2.1⟩]
 ·exact absurd rfl h
theorem kdS_er {tab : List Tx} {l : List Tk} {i : Nat} (h : kdS tab l i tab.length = 0) : wordR l i tab = .err i 3 := by
 have hl := ixS_lt tab (l.getD i tk0).text
 unfold kdS at h
 split at h
 ·omega
 ·rename_i h1
  rw [wordR, if_neg (fun h9 => h1 ⟨h9.1, h9.2, hl⟩)]
def CS (s : Tx) (kd m p : Int) (k : Nat) (m3 p3 : Int) (kn : Bool) : Prop :=
 m3 = (if m = 0 ∧ 0 < ixS mtT s ∧ ixS mtT s < k then ixS mtT s else m) ∧ p3 = (if (p = 0 ∧ ¬ kd = 6) ∧ 0 < ixS ptT s ∧ ixS ptT s < k then ixS ptT s else p) ∧
 (kn = true ↔ (m = 0 ∧ 0 < ixS mtT s ∧ ixS mtT s < k) ∨ ((p = 0 ∧ ¬ kd = 6) ∧ 0 < ixS ptT s ∧ ixS ptT s < k))
theorem CS_1 (s : Tx) (kd m p : Int) : CS s kd m p 1 m p false :=
 ⟨by rw [if_neg (by omega)], by rw [if_neg (by omega)], by constructor; (intro h; cases h); (intro h; omega)⟩
section
variable {s : Tx} {kd m p m3 p3 : Int} {k : Nat} {kn : Bool}
theorem CS_m (H : CS s kd m p k m3 p3 kn) (h0 : 0 < k) (h4 : k < 4) : (s = mtT.getD k [] ∧ m3 = 0) ↔ (ixS mtT s = k ∧ m = 0) := by
 have h1 := ixS_iff (tab := mtT) (t := s) (show k < mtT.length from h4) mtT_nd
 obtain ⟨h2, _, _⟩ := H
 rw [h1]
 constructor
 ·rintro ⟨h5, h6⟩
  rw [if_neg (by omega)] at h2
  exact ⟨h5, by omega⟩
 ·rintro ⟨h5, h6⟩
  rw [if_neg (by omega)] at h2
  exact ⟨h5, by omega⟩
theorem CS_p (H : CS s kd m p k m3 p3 kn) (h0 : 0 < k) (h4 : k < 4) : (s = ptT.getD k [] ∧ p3 = 0) ↔ (ixS ptT s = k ∧ p = 0) := by
 have h1 := ixS_iff (tab := ptT) (t := s) (show k < ptT.length from h4) ptT_nd
 obtain ⟨_, h2, _⟩ := H
 rw [h1]
 constructor
 ·rintro ⟨h5, h6⟩
  rw [if_neg (by omega)] at h2
  exact ⟨h5, by omega⟩
 ·rintro ⟨h5, h6⟩
  rw [if_neg (by omega)] at h2
  exact ⟨h5, by omega⟩
theorem CS_s (H : CS s kd m p k m3 p3 kn) (h0 : 0 < k) (h4 : k < 4) (m4 p4 : Int) (kn2 : Bool)
  (hm : m4 = if s = mtT.getD k [] ∧ m3 = 0 then (k : Int) else m3) (hp : p4 = if (s = ptT.getD k [] ∧ p3 = 0) ∧ ¬ kd = 6 then (k : Int) else p3)
  (hk : kn2 = true ↔ kn = true ∨ (s = mtT.getD k [] ∧ m3 = 0) ∨ ((s = ptT.getD k [] ∧ p3 = 0) ∧ ¬ kd = 6)) : CS s kd m p (k + 1) m4 p4 kn2 := by
 have em := CS_m H h0 h4
 have ep := CS_p H h0 h4
 obtain ⟨h1, h2, h3⟩ := H
 rw [em, ep] at hk
 refine ⟨?_, ?_, ?_⟩
 ·rw [hm]
  by_cases h5 : ixS mtT s = k ∧ m = 0
  ·rw [if_pos (em.2 h5), if_pos (by omega)]; omega
  ·rw [if_neg (fun h9 => h5 (em.1 h9)), h1]
   by_cases h6 : m = 0 ∧ 0 < ixS mtT s ∧ ixS mtT s < k
   ·rw [if_pos h6, if_pos (by omega)]
   ·rw [if_neg h6, if_neg (by omega)]
 ·rw [hp]
  by_cases h5 : ixS ptT s = k ∧ p = 0
  ·by_cases h7 : kd = 6
   ·rw [if_neg (by omega), h2, if_neg (by omega), if_neg (by omega)]
   ·rw [if_pos ⟨ep.2 h5, h7⟩, if_pos (by omega)]; omega
  ·rw [if_neg (fun h9 => h5 (ep.1 h9.1)), h2]
   by_cases h6 : (p = 0 ∧ ¬ kd = 6) ∧ 0 < ixS ptT s ∧ ixS ptT s < k
   ·rw [if_pos h6, if_pos (by omega)]
   ·rw [if_neg h6, if_neg (by omega)]
 ·rw [hk, h3]
  constructor
  ·intro h; omega
  ·intro h; omega
theorem mt_pt (h : 0 < ixS mtT s) : ixS ptT s = -1 := by
 have hl := ixS_lt mtT s
 have h4 : (mtT.length : Int) = 4 := rfl
 have hh : ixS mtT s = ((ixS mtT s).toNat : Nat) := by omega
 have := ixS_get mtT s _ hh
 rcases (show (ixS mtT s).toNat = 1 ∨ (ixS mtT s).toNat = 2 ∨ (ixS mtT s).toNat = 3 by omega) with h9 | h9 | h9 <;> (rw [h9] at this; subst this; decide)
theorem CS_f (H : CS s kd m p 4 m3 p3 kn) (h : kn = false) : ¬ (0 < ixS mtT s ∧ m = 0) ∧ ¬ ((0 < ixS ptT s ∧ p = 0) ∧ ¬ kd = 6) := by
 have h1 := ixS_lt mtT s
 have h2 := ixS_lt ptT s
 have h3 : (mtT.length : Int) = 4 := rfl
 have h4 : (ptT.length : Int) = 4 := rfl
 obtain ⟨_, _, h5⟩ := H
 rw [h] at h5
 have h6 : ¬ ((m = 0 ∧ 0 < ixS mtT s ∧ ixS mtT s < (4 : Nat)) ∨ ((p = 0 ∧ ¬ kd = 6) ∧ 0 < ixS ptT s ∧ ixS ptT s < (4 : Nat))) := fun h9 => Bool.noConfusion (h5.2 h9)
 constructor <;> omega
theorem CS_t {l : List Tk} {j : Nat} (H : CS s kd m p 4 m3 p3 kn) (h : kn = true) (hs : s = (l.getD j tk0).text) (hx : nx l j 2 = true) : tagS l kd j m p = tagS l kd (j + 1) m3 p3 := by
 have h1 := ixS_lt mtT s
 have h2 := ixS_lt ptT s
 have h3 : (mtT.length : Int) = 4 := rfl
 have h4 : (ptT.length : Int) = 4 := rfl
 obtain ⟨h5, h6, h7⟩ := H
 have h8 := h7.1 h
 by_cases h9 : m = 0 ∧ 0 < ixS mtT s
 ·have h10 := mt_pt h9.2
  rw [tg_m hx (by rw [← hs]; exact ⟨h9.2, h9.1⟩), ← hs, h5, h6, if_pos (by omega), if_neg (by omega)]
 ·rw [tg_p hx (by rw [← hs]; omega) (by rw [← hs]; omega), ← hs, h5, h6, if_neg (by omega), if_pos (by omega)]
end
theorem sr_b {l : List Tk} {i : Nat} (h : isT l i 5 [91] = false) : strsR l i = (nextR l i 4).bind fun t j => .ok [t.text] j := by
 rw [strsR, if_neg (by simp [h]), nextR]
 split <;> rfl
theorem sr_c {l : List Tk} {i : Nat} (h : isT l i 5 [91] = true) : strsR l i = (nextR l (i + 1) 4).bind fun t j => strsL l j [t.text] := by
 rw [strsR, if_pos h, nextR]
 split <;> rfl
theorem sl_b {l : List Tk} {j : Nat} {acc : List Tx} (h : isT l j 5 [44] = true) : strsL l j acc = (nextR l (j + 1) 4).bind fun t j2 => strsL l j2 (acc ++ [t.text]) := by
 rw [strsL, dif_pos h, nextR]
 split <;> rfl
theorem sl_f {l : List Tk} {j : Nat} {acc : List Tx} (h : isT l j 5 [44] = false) : strsL l j acc = (mustR l j [93]).bind fun _ j2 => .ok acc j2 := by
 rw [strsL, dif_neg (by simp [h]), mustR]
 split <;> rfl
theorem RR.next {α β : Type} {l : List Tk} {r : Rd α} {a : α} {n m : Nat} {f e f' e' : Int} {y : β} {g : α → Nat → Rd β} (H : RR l r a n f e) (hn : r ≠ .oof) (h : e = 0) (H2 : RR l (g a n) y m f' e') : RR l (r.bind g) y m f' e' := by
 rw [(RR.ok0 H hn h).1, Rd.bind_ok]; exact H2
end
section
def nA : Unit → Nat → AV := fun _ n => .d (.int .i64 n)
def tA : Tk → Nat → AV := fun t n => .tup [.d (.str t.text), .d (.int .i64 n)]
def txA : List Tx → Nat → AV := fun t n => .tup [.d (.slc 1 (t.map strD)), .d (.int .i64 n)]
attribute [local go_sem] pob in
theorem pmark_c (T : Tbl) (b : Nat) (l : List Tk) (i : Nat) (F : List (Nat × Ob)) (L : List Nat) (s : Tx) (hn : i ≤ 499) : AC Tryz.prog T 194 [.ptr b 3 0 0, .d (.int .i64 (i : Nat)), .d (.str s)] (⟨pob b l 0 0 :: F, L⟩) (RE 500 b F L l nA (mustR l i s)) := by
 refine ⟨Tryz.call194, ACalls.enterS Tryz.func194 rfl Tryz.ntmps194 rfl fun hb => ?_⟩
 simp only [go_sem, Tryz.results194]
 refine Zp 7 ?_
 refine Zs (Zx (Zy ?_))
 refine ZA [b] [] (pisMark_c T b l (i) _ _ _ _ s) ?_
 rintro _ _ ⟨rfl, rfl⟩
 refine Zy ?_
 refine Zm 67 ?_
 refine Zc (fun hc0 => ?_) fun hc0 => ?_
 ·
  refine Zp 4 ?_
  refine AWp.ret ?_
  simp only [thenQ]
  apply endW_r [] [] [b] [] (by (try simp only [go_sem]) <;> rfl)
  · refine ⟨(), (i + 1), 0, 0, rfl, by first | rfl | (simp only [go_sem, ]; done) | (simp only [go_sem, ]; rfl), by omega, ?_⟩
    rw [mustR, if_pos hc0]
    exact RR.ok_ _ _
  · simp [LeA, LeD, nA]
 refine Zk ?_
 refine Zx (Zy ?_)
 refine ZA [b] [] (pstop_c T b l (i) _ _ 3 (by decide)) ?_
 rintro _ _ ⟨rfl, rfl⟩
 refine Zy ?_
 refine Zm 4 ?_
 refine AWp.ret ?_
 apply endW_r [] [] [b] [] (by (try simp only [go_sem]) <;> rfl)
 · refine ⟨(), i, _, _, rfl, by first | rfl | (simp only [go_sem, ]; done) | (simp only [go_sem, ]; rfl), by omega, ?_⟩
   rw [mustR, if_neg (by simpa using hc0)]
   exact RR.er_ _ _ (gv_ne (by decide))
 · simp [LeA, LeD, nA]
attribute [local go_sem] pob tkD in
theorem pstr_in (T : Tbl) (b : Nat) (l : List Tk) (i : Nat) (F : List (Nat × Ob)) (L : List Nat) (hl : i < l.length) (hn : i ≤ 499) : AC Tryz.prog T 193 [.ptr b 3 0 0, .d (.int .i64 (i : Nat))] (⟨pob b l 0 0 :: F, L⟩) (RE 500 b F L l tA (nextR l i 4)) := by
 refine ⟨Tryz.call193, ACalls.enterS Tryz.func193 rfl Tryz.ntmps193 rfl fun hb => ?_⟩
 have hlt : ((i : Int) < (l.length : Int)) = True := by simp; omega
 have hgd := tksD_gD l i [] hl
 have hge2 : l.getD i tk0 = l[i] := by simp [List.getD, List.getElem?_eq_getElem hl]
 simp only [go_sem, Tryz.results193]
 refine Zp 3 ?_
 refine Zs (Zp 524291 ?_)
 refine Zc (fun hc0 => ?_) fun hc0 => ?_
 ·
  have hk1 : nx l i 4 = true := by simp [nx, hl]; first | exact hc0 | exact hc0.2
  refine Zp 12 ?_
  refine AWp.ret ?_
  simp only [thenQ]
  apply endW_r [] [] [b] [] (by (try simp only [go_sem]) <;> rfl)
  · refine ⟨l[i], (i + 1), 0, 0, rfl, by first | rfl | (simp only [go_sem]; done) | (simp only [go_sem, hlt, hgd]; rfl), by omega, ?_⟩
    rw [nextR, if_pos hk1, hge2]
    exact RR.ok_ _ _
  · simp [LeA, LeL, LeD, tA]
 have hw : nextR l i 4 = .err i 3 := by rw [nextR, if_neg (fun h => by simp [nx, hl] at h; first | exact hc0 h | (rcases hc0 with h3 | h3; exact h3.elim; exact h3 h) | (simp [h] at hc0))]
 refine Zk ?_
 refine Zx (Zy ?_)
 refine ZA [b] [] (pstop_c T b l (i) _ _ 3 (by decide)) ?_
 rintro _ _ ⟨rfl, rfl⟩
 refine Zy ?_
 refine Zm 12 ?_
 refine AWp.ret ?_
 apply endW_r [] [] [b] [] (by (try simp only [go_sem]) <;> rfl)
 · refine ⟨tk0, i, _, _, rfl, by first | rfl | (simp only [go_sem]; done) | (simp only [go_sem]; rfl), by omega, ?_⟩
   rw [hw]
   exact RR.er_ _ _ (gv_ne (by decide))
 · simp [LeA, LeL, LeD, tA, tk0]
attribute [local go_sem] pob decide_false Bool.false_and Bool.false_eq_true true_and and_true in
theorem pstr_out (T : Tbl) (b : Nat) (l : List Tk) (i : Nat) (F : List (Nat × Ob)) (L : List Nat) (hl : l.length ≤ i) (hn : i ≤ 499) : AC Tryz.prog T 193 [.ptr b 3 0 0, .d (.int .i64 (i : Nat))] (⟨pob b l 0 0 :: F, L⟩) (RE 500 b F L l tA (nextR l i 4)) := by
 refine ⟨Tryz.call193, ACalls.enterS Tryz.func193 rfl Tryz.ntmps193 rfl fun hb => ?_⟩
 have hlt : ((i : Int) < (l.length : Int)) = False := by simp; omega
 have hw : nextR l i 4 = .err i 3 := by rw [nextR, if_neg (by simp [nx, Nat.not_lt.2 hl])]
 simp only [go_sem, Tryz.results193]
 refine Zp 3 ?_
 refine Zs (Zp 524291 ?_)
 refine Zc (fun hc0 => ?_) fun hc0 => ?_
 ·
  exact absurd hc0 (by simp)
 refine Zk ?_
 refine Zx (Zy ?_)
 refine ZA [b] [] (pstop_c T b l (i) _ _ 3 (by decide)) ?_
 rintro _ _ ⟨rfl, rfl⟩
 refine Zy ?_
 refine Zm 12 ?_
 refine AWp.ret ?_
 apply endW_r [] [] [b] [] (by (try simp only [go_sem]) <;> rfl)
 · refine ⟨tk0, i, _, _, rfl, by first | rfl | (simp only [go_sem]; done) | (simp only [go_sem]; rfl), by omega, ?_⟩
   rw [hw]
   exact RR.er_ _ _ (gv_ne (by decide))
 · simp [LeA, LeL, LeD, tA, tk0]
theorem pstr_c (T : Tbl) (b : Nat) (l : List Tk) (i : Nat) (F : List (Nat × Ob)) (L : List Nat) (hn : i ≤ 499) : AC Tryz.prog T 193 [.ptr b 3 0 0, .d (.int .i64 (i : Nat))] ⟨pob b l 0 0 :: F, L⟩ (RE 500 b F L l tA (nextR l i 4)) := by
 rcases Nat.lt_or_ge i l.length with h | h
 ·exact pstr_in T b l i F L h hn
 ·exact pstr_out T b l i F L h hn
attribute [local go_sem] pob tcast nA tA Bool.false_eq_true decide_false in
theorem pstrs_c (T : Tbl) (b : Nat) (l : List Tk) (i : Nat) (F : List (Nat × Ob)) (L : List Nat) (hl : l.length ≤ 400) (hn : i ≤ l.length) : AC Tryz.prog T 192 [.ptr b 3 0 0, .d (.int .i64 (i : Nat))] (⟨pob b l 0 0 :: F, L⟩) (RE 500 b F L l txA (strsR l i)) := by
 refine ⟨Tryz.call192, ACalls.enterS Tryz.func192 rfl Tryz.ntmps192 rfl fun hb => ?_⟩
 simp only [go_sem, Tryz.results192]
 refine Zp 3 ?_
 refine Zs (Zx (Zy ?_))
 refine ZA [b] [] (pisMark_c T b l (i) _ _ _ _ [91]) ?_
 rintro _ _ ⟨rfl, rfl⟩
 refine Zy ?_
 refine Zc (fun hc0 => ?_) fun hc0 => ?_
 ·
  have hb : isT l i 5 [91] = false := by simpa using hc0
  refine Zx (Zy ?_)
  refine ZA [b] [] (pstr_c T b l i _ _ (by omega)) ?_
  rintro _ _ ⟨a1, n1, f1, e1, rfl, rfl, ub1, r1⟩
  refine Zy ?_
  refine Zm 12 ?_
  refine AWp.cut 1 fun K_ hK_ => ?_
  simp only [List.take_succ_cons, List.take_zero, List.drop_succ_cons, List.drop_zero]
  refine Zy ?_
  refine DW.bsO (he := by first | rfl | kernel_rfl) rfl rfl (show slI Tryz.prog 31 = some (9, 1, 16) by simp only [go_sem]) (by (try simp only [go_sem]) <;> rfl) rfl (by decide) fun t1 ft1 => ?_
  try simp only [freshT] at ft1
  refine Zy ?_
  refine hK_ _ _ ?_
  refine Zm 3 ?_
  refine AWp.ret ?_
  simp only [thenQ]
  apply endW_r [] [t1] [b] [] (by (try simp only [go_sem]) <;> rfl)
  · refine ⟨[a1.text], n1, f1, e1, rfl, by first | rfl | (simp only [go_sem]; done) | (simp only [go_sem, ft1]; rfl), by omega, ?_⟩
    rw [sr_b hb]
    by_cases h9 : e1 = 0
    · refine r1.next (nextR_oof _ _ _) h9 ?_
      obtain ⟨_, rfl⟩ := r1.ok0 (nextR_oof _ _ _) h9
      subst h9
      exact RR.ok_ _ _
    · exact r1.thru (nextR_oof _ _ _) h9 _ _
  · simp [LeA, LeL, LeD, txA, strD]
 have hb : isT l i 5 [91] = true := by simpa using hc0
 have blt := isT_lt hb
 refine Zk ?_
 refine Zm 3 ?_
 refine Zx (Zy ?_)
 (repeat (with_reducible refine And.intro ZS ?_))
 refine DW.acp [b] [] rfl rfl rfl rfl (by (try simp only [go_sem]) <;> rfl) rfl (pstr_c T b l (i + 1) _ _ (by omega)) ?_
 rintro _ _ ⟨a2, n2, f2, e2, rfl, rfl, ub2, r2⟩
 have l2 : e2 = 0 → n2 = i + 1 + 1 ∧ n2 ≤ l.length := fun h => by obtain ⟨q1, q2⟩ := r2.ok0 (nextR_oof _ _ _) h; obtain ⟨q3, q4, q5⟩ := nextR_ok q1; have := nx_lt q3; omega
 refine Zy ?_
 refine Zm 13 ?_
 refine AWp.cut 1 fun K_ hK_ => ?_
 simp only [List.take_succ_cons, List.take_zero, List.drop_succ_cons, List.drop_zero]
 refine Zy ?_
 refine DW.bsO (he := by first | rfl | kernel_rfl) rfl rfl (show slI Tryz.prog 31 = some (9, 1, 16) by simp only [go_sem]) (by (try simp only [go_sem]) <;> rfl) rfl (by decide) fun t2 ft2 => ?_
 try simp only [freshT] at ft2
 refine Zy ?_
 refine hK_ _ _ ?_
 refine Zs (AWp.block (Zn 13 ?_))
 refine Zl 1 6 (fun n lc hc => ∃ (v w : Nat) (f e : Int) (acc : List Tx), n = (if e = 0 then l.length + 3 - v else 0) ∧ EqS lc [(9, .d (.int .i64 (v : Nat))), (10, .own w 1 (acc.map strD))] ∧ EqS hc (⟨pob b l f e :: F, w :: L⟩) ∧ (v ≤ 500) ∧ (acc.length ≤ 402) ∧ (freshT w L) ∧ (e = 0 → f = 0 ∧ v ≤ l.length ∧ acc.length ≤ v ∧ strsR l i = strsL l v acc) ∧ (¬ e = 0 → ∀ y m, RR l (strsR l i) y m f e)) ?_ ?_
 · refine ⟨_, n2, t2, f2, e2, [a2.text], rfl, ZE, ZE, ?_, ?_, ?_, ?_, ?_⟩
   all_goals (first | (intro h; rw [sr_c hb]; have := l2 h; refine ⟨(r2.ok0 (nextR_oof _ _ _) h).2, by omega, by simp; omega, ?_⟩; rw [(r2.ok0 (nextR_oof _ _ _) h).1, Rd.bind_ok]) | (intro h y m; rw [sr_c hb]; exact r2.thru (nextR_oof _ _ _) h _ _) | exact ft2 | omega | (simp; done))
 rintro _ _ _ ⟨v, w, f, e, acc, rfl, ⟨rfl⟩, ⟨rfl⟩, h1, h2, h3, h4, h5⟩
 refine Zy ?_
 refine Zs ?_
 by_cases he : e = 0
 ·
  subst he
  obtain ⟨rfl, hn2, ha, hs⟩ := h4 rfl
  refine AWp.rsG 8 fun K_ hK_ => ?_
  simp only [List.take_succ_cons, List.take_zero, List.drop_succ_cons, List.drop_zero]
  simp only [go_sem, if_false, eq_self, if_true]
  refine LV.gcall rfl rfl (by first | rfl | (simp only [go_sem, ft2, if_false, eq_self, if_true]; done) | (simp only [go_sem, ft2, if_false, eq_self, if_true]; rfl)) rfl rfl (by rfl) (LeH.refl _) (by first | rfl | (simp only [go_sem, ft2, if_false, eq_self, if_true]; done) | (simp only [go_sem, ft2, if_false, eq_self, if_true]; rfl)) (pisMark_c T b l (v) _ _ _ _ [44]) ?_
  rintro _ _ ⟨rfl, rfl⟩
  refine LV.leH (LeH.refl _) (LV.lvc ?_)
  simp only [go_sem, if_false, eq_self, if_true]
  refine hK_ _ _ ?_
  refine Zm 4103 ?_
  refine Zc (fun hc1 => ?_) fun hc1 => ?_
  ·
   have him : isT l v 5 [44] = true := by simpa using hc1
   have jlt := isT_lt him
   refine Zk ?_
   refine AWp.block (Zx ?_)
   simp only [go_sem, if_false, eq_self, if_true]
   (repeat (with_reducible refine And.intro ZS ?_))
   refine DW.acp [b] [] rfl rfl rfl rfl (by (try simp only [go_sem, eq_self, if_true]) <;> rfl) rfl (pstr_c T b l (v + 1) _ _ (by omega)) ?_
   rintro _ _ ⟨a3, n3, f3, e3, rfl, rfl, ub3, r3⟩
   have l3 : e3 = 0 → n3 = v + 1 + 1 ∧ n3 ≤ l.length := fun h => by obtain ⟨q1, q2⟩ := r3.ok0 (nextR_oof _ _ _) h; obtain ⟨q3, q4, q5⟩ := nextR_ok q1; have := nx_lt q3; omega
   simp only [go_sem, if_false, eq_self, if_true]
   refine Zm 15 ?_
   refine Zq fun K_ k_ => ?_
   simp only [go_sem, if_false, eq_self, if_true]
   refine ZW fun t3 ft3 => ?_
   try simp only [freshT] at ft3
   simp only [go_sem, if_false, eq_self, if_true]
   refine k_ _ _ (blkQ_n (thenQ_n ?_))
   refine Ze 1 12 [] [] [b] [t3] (.e ⟨_, ?_, n3, t3, f3, e3, (acc ++ [a3.text]), rfl, ?_, ZE, ?_, ?_, ?_, ?_, ?_⟩)
   · first | omega | (simp; omega) | (have := l3; split <;> simp <;> omega)
   · (try simp only [go_sem, if_false, eq_self, if_true]) <;> first | exact ⟨rfl⟩ | (constructor; simp [strD]; done)
   · omega
   · simp; omega
   · first | exact ft3 | exact ft3.2
   · intro h; have := l3 h; refine ⟨(r3.ok0 (nextR_oof _ _ _) h).2, by omega, by simp; omega, ?_⟩; rw [hs, sl_b him, (r3.ok0 (nextR_oof _ _ _) h).1, Rd.bind_ok]
   · intro h y m; rw [hs, sl_b him]; exact r3.thru (nextR_oof _ _ _) h _ _
  have him : isT l v 5 [44] = false := by simpa using hc1
  refine AWp.exit (thenQ_e (thenQ_e (blkQ_e (thenQ_n ?_))))
  refine Zs (Zp 263 ?_)
  refine Zc (fun hc2 => ?_) fun hc2 => ?_
  ·
   refine Zq fun K_ k_ => ?_
   simp only [go_sem, if_false, eq_self, if_true]
   refine ZA [b] [] (pmark_c T b l v _ _ [93] (by omega)) ?_
   rintro _ _ ⟨a4, n4, f4, e4, rfl, rfl, ub4, r4⟩
   simp only [go_sem, if_false, eq_self, if_true]
   refine k_ _ _ (thenQ_n ?_)
   refine Zm 6 ?_
   refine Zp 3 ?_
   refine AWp.ret ?_
   apply endW_r [] [w] [b] [] (by (try simp only [go_sem, if_false, eq_self, if_true]) <;> rfl)
   · refine ⟨acc, n4, f4, e4, rfl, by first | rfl | (simp only [go_sem, eq_self, if_true]; done) | (simp only [go_sem, ft2, if_false, eq_self, if_true]; rfl), by omega, ?_⟩
     rw [hs, sl_f him]
     by_cases h9 : e4 = 0
     · refine r4.next (mustR_oof _ _ _) h9 ?_
       obtain ⟨_, rfl⟩ := r4.ok0 (mustR_oof _ _ _) h9
       subst h9
       exact RR.ok_ _ _
     · exact r4.thru (mustR_oof _ _ _) h9 _ _
   · simp [LeA, LeL, LeD, txA]
  exact absurd hc2 (by first | (simp; done) | omega | (simp [*]; done))
 refine Zx ?_
 simp only [go_sem, he]
 refine DW.skipc rfl rfl ?_
 refine Zy ?_
 refine Zm 4103 ?_
 refine Zc (fun hc1 => ?_) fun hc1 => ?_
 ·
  exact absurd hc1 (by first | (simp; done) | omega | (simp [*]; done))
 refine AWp.exit (thenQ_e (thenQ_e (blkQ_e (thenQ_n ?_))))
 refine Zs (Zp 263 ?_)
 refine Zc (fun hc2 => ?_) fun hc2 => ?_
 ·
  exact absurd hc2 (by first | (simp; done) | omega | (simp [*]; done))
 refine Zk ?_
 refine Zp 6 ?_
 refine AWp.ret ?_
 apply endW_r [] [w] [b] [] (by (try simp only [go_sem, he]) <;> rfl)
 · refine ⟨acc, v, f, e, rfl, by first | rfl | (simp only [go_sem]; done) | (simp only [go_sem, ft2, he]; rfl), by omega, ?_⟩
   exact h5 he _ _
 · simp [LeA, LeL, LeD, txA]
end
end Go.Proofs.YtidldcfpmehpiaaGreatDoor

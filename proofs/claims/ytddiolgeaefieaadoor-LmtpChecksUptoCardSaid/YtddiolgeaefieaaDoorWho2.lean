/- Dotted atoms and addresses, walked: P3.1, P3.2. -/
import Derived.Test.YtddiolgeaefieaaDoorWho1
namespace Go.Proofs.YtddiolgeaefieaaDoor
open Go.RowKit
set_option linter.unusedSimpArgs false
set_option linter.unusedVariables false
theorem ne46 {l : UInt8} (h : l ≠ 46) : (l.toNat : Int) ≠ 46 := fun e => h (UInt8.toNat_inj.1 (by have : (46 : UInt8).toNat = 46 := rfl; omega))
set_option maxRecDepth 20000 in
theorem dotted_any (s : ByteArray) (w : World) (hs : s.size ≤ 1048576) (h0 : Lib0 w) : Calls Tryd.prog 46 #[.string s] w fun e w' => e = .returned (.bool (dottedB s)) ∧ Below w.heap.size w w' := by
  have HS := Lib.hid (splitL_all s)
  have HZ := Lib.hid (fun x (hx : x ∈ splitL s) => splitB_small dotSep _ s x hx)
  have HC := Lib.hid (fun wx h => Split_any s wx (by omega) h)
  obtain ⟨L, hL⟩ : ∃ L, L = splitL s := ⟨_, rfl⟩
  rw [← hL] at HS HC HZ
  have HL := Lib.hid hL
  have H0 := Lib.hid h0
  clear hL h0
  go_enter Tryd.func46, Tryd.ntmps46
  go_wp2_with fail
  refine (HC.out _ H0.out).mono ?_
  rintro e w1 ⟨v, rfl, hr, hb⟩
  obtain ⟨A, c, rfl, hr⟩ := hr.ex
  have hm := hr.bound
  unfold maxLen at hm
  have H := Lib.hid hr
  have HB := Lib.hid hb
  clear hr hb
  go_wp2_with fail
  go_loop [9] (fun i => ∃ k : Nat, k ≤ L.length ∧ i = .int .i64 k ∧ ∀ (j : Nat) x, j < k → L[j]? = some x → pieceOk (bs x) = true) (fun i => L.length - (intOf i).toNat)
  case atStart => exact ⟨0, by omega, rfl, fun j x hj => by omega⟩
  case round =>
    obtain ⟨k, hk, rfl, hg⟩ := hrel
    have HG := Lib.hid hg
    clear hg
    by_cases hlt : k < L.length
    · obtain ⟨b, off, x, rfl, _, hx, hc⟩ := str_cell H.out hlt
      have hxs := HZ.out x (List.mem_of_getElem? hx)
      have HX := Lib.hid hx
      have HBAD : Hid (pieceOk (bs x) = false → dottedB s = false) := Lib.hid (fun h => by
        rw [← HS.out, List.all_eq_false]
        exact ⟨x, List.mem_of_getElem? HX.out, by simp [h]⟩)
      clear hx
      by_cases hz : x.size = 0
      · have HV : Hid (dottedB s = false) := Lib.hid (HBAD.out (by
          have : bs x = [] := List.eq_nil_of_length_eq_zero (by rw [bs_len]; exact hz)
          rw [this]; rfl))
        have hx0 : x = ByteArray.empty := by
          apply bs_inj
          have : bs x = [] := List.eq_nil_of_length_eq_zero (by rw [bs_len]; exact hz)
          rw [this]; rfl
        subst hx0
        clear hz hxs
        go_wp2_with fail
        go_ret
        exact ⟨by rw [HV.out]; rfl, HB.out⟩
      · have i1 : x.toList.isEmpty = false := by
          rw [ByteArray.toList_eq]
          cases he : x.data.toList with
          | nil => exfalso; apply hz; rw [← bs_len]; unfold bs; rw [he]; rfl
          | cons a b => rfl
        have HNE : Hid ((bs x).isEmpty = false) := Lib.hid (by rw [ByteArray.toList_eq] at i1; exact i1)
        have i2 : ¬ x.toList = [] := by intro h; rw [h] at i1; cases i1
        clear hz
        go_wp2_with fail
        go_loop [17] (fun i => ∃ q : Nat, q ≤ x.size ∧ i = .int .i64 q ∧ ∀ (j : Nat) (hj : j < x.size), j < q → atomB x[j] = true) (fun i => x.size - (intOf i).toNat)
        case atStart => exact ⟨0, by omega, rfl, fun j x hj => by omega⟩
        case round =>
          obtain ⟨q, hq, rfl, hat⟩ := hrel
          have HA := Lib.hid hat
          clear hat
          by_cases hlq : q < x.size
          · have HAT := Lib.hid (fun wx => atom_any x[q] wx)
            cases ha : atomB x[q]
            · rw [ha] at HAT
              have HV : Hid (dottedB s = false) := Lib.hid (HBAD.out (by
                unfold pieceOk
                rw [HNE.out]
                have : (bs x).all atomB = false := by
                  rw [List.all_eq_false]
                  exact ⟨x[q], List.mem_of_getElem? (bs_get x q hlq), by simp [ha]⟩
                rw [this]; rfl))
              clear ha
              go_wp2_with (go_at_call 85; refine (HAT.out _).mono ?_; rintro e w' ⟨rfl, rfl⟩)
              go_ret
              exact ⟨by rw [HV.out]; rfl, HB.out⟩
            · rw [ha] at HAT
              have HH := Lib.hid ha
              clear ha
              go_wp2_with (go_at_call 85; refine (HAT.out _).mono ?_; rintro e w' ⟨rfl, rfl⟩)
              go_round
              case rel =>
                refine ⟨q + 1, by omega, by go_num, fun j hj hjq => ?_⟩
                by_cases e : j = q
                · subst e; exact HH.out
                · exact HA.out j hj (by omega)
              case measure => simp [intOf]; omega
          · obtain rfl : q = x.size := by omega
            have HP : Hid (pieceOk (bs x) = true) := Lib.hid (by
              unfold pieceOk
              rw [HNE.out]
              have : (bs x).all atomB = true := by
                rw [List.all_eq_true]
                intro b hb
                obtain ⟨j, hj, e⟩ := List.mem_iff_getElem.1 hb
                have hj' : j < x.size := by rw [← bs_len]; exact hj
                have := HA.out j hj' hj'
                rw [← e]
                have e2 := bs_get x j hj'
                rw [List.getElem?_eq_getElem hj] at e2
                injection e2 with e2
              rw [this]; rfl)
            go_wp2_with fail
            go_round
            case rel =>
              refine ⟨k + 1, by omega, by go_num, fun j y hj hy => ?_⟩
              by_cases e : j = k
              · subst e
                rw [HX.out] at hy
                injection hy with hy
                subst hy
                exact HP.out
              · exact HG.out j y (by omega) hy
            case measure => simp [intOf]; omega
    · obtain rfl : k = L.length := by omega
      have HV : Hid (dottedB s = true) := Lib.hid (by
        rw [← HS.out, List.all_eq_true]
        intro x hx
        obtain ⟨j, hj, e⟩ := List.mem_iff_getElem.1 hx
        exact HG.out j x hj (by rw [List.getElem?_eq_getElem hj, e]))
      go_wp2_with fail
      go_ret
      exact ⟨by rw [HV.out]; rfl, HB.out⟩
theorem dotGo_at (s : ByteArray) (d : Bool) (k : Nat) (h : k < s.size) : dotGo d ((bs s).drop k) = if s[k] = 46 then !d && dotGo true ((bs s).drop (k + 1)) else atomB s[k] && dotGo false ((bs s).drop (k + 1)) := by
  have hk : k < (bs s).length := by rw [bs_len]; exact h
  have e := bs_get s k h
  rw [List.getElem?_eq_getElem hk] at e
  injection e with e
  rw [List.drop_eq_getElem_cons hk, e]
  rfl
set_option maxRecDepth 20000 in
theorem dottedMay_any (s : ByteArray) (w : World) (hs : s.size ≤ maxLen) : Calls Tryd.prog 47 #[.string s] w fun e w' => e = .returned (.bool (dottedB s)) ∧ Below w.heap.size w w' := by
  unfold maxLen at hs
  have hbl := Lib.hid (bs_len s)
  go_enter Tryd.func47, Tryd.ntmps47
  go_wp2_with fail
  go_loopw [3, 4] (fun v i wr => ∃ (k : Nat) (l : UInt8), k ≤ s.size ∧ i = .int .i64 k ∧ v = .int .u8 l.toNat ∧ dottedB s = dotGo (decide (l = 46)) ((bs s).drop k) ∧ Below w.heap.size w wr) (fun _ i _ => s.size - (intOf i).toNat)
  case atStart => exact ⟨0, 46, by omega, rfl, rfl, by rfl, Below.refl _ _⟩
  case round =>
    obtain ⟨k, l, hk, rfl, rfl, hd, hb⟩ := hrel
    have HD := Lib.hid hd
    have HB := Lib.hid hb
    clear hd hb
    have hl := l.toNat_lt
    by_cases hlt : k < s.size
    · have HS := Lib.hid (dotGo_at s (decide (l = 46)) k hlt)
      by_cases he : s[k] = 46
      · have i1 : ((s[k].toNat : Int) == 46) = true := by rw [he]; rfl
        by_cases hl46 : l = 46
        · subst hl46
          have HV : Hid (dottedB s = false) := Lib.hid (by rw [HD.out, HS.out, if_pos he]; rfl)
          clear he
          go_wp2_with fail
          go_ret
          exact ⟨by rw [HV.out]; rfl, HB.out⟩
        · have HV : Hid (dottedB s = dotGo (decide (s[k] = 46)) ((bs s).drop (k + 1))) := Lib.hid (by rw [HD.out, HS.out, if_pos he, he]; simp [hl46])
          have i2 : ((l.toNat : Int) == 46) = false := beq_false_of_ne (ne46 hl46)
          have i3 : ((s[k].toNat : Int) != 46) = false := by rw [he]; rfl
          have i4 : (s[k].toNat : Int) = 46 := by rw [he]; rfl
          clear he hl46
          go_wp2_with fail
          go_roundw
          case rel => exact ⟨k + 1, s[k], by omega, by go_num, by first | rfl | rw [i4], HV.out, HB.out⟩
          case measure => simp [intOf]; omega
      · have i1 : ((s[k].toNat : Int) == 46) = false := beq_false_of_ne (ne46 he)
        have i3 : ((s[k].toNat : Int) != 46) = true := by simp only [bne, i1]; rfl
        have i4 : ¬ (s[k].toNat : Int) = 46 := by simpa using i1
        have HAT := Lib.hid (fun wx => atomByte_any s[k] wx)
        cases ha : atomB s[k]
        · rw [ha] at HAT
          have HV : Hid (dottedB s = false) := Lib.hid (by rw [HD.out, HS.out, if_neg he, ha]; rfl)
          clear he ha
          go_wp2_with (go_at_call 86; refine (HAT.out _).mono ?_; rintro e w1 ⟨rfl, hb1⟩)
          go_ret
          exact ⟨by rw [HV.out]; rfl, HB.out.trans (hb1.mono HB.out.size)⟩
        · rw [ha] at HAT
          have HV : Hid (dottedB s = dotGo (decide (s[k] = 46)) ((bs s).drop (k + 1))) := Lib.hid (by rw [HD.out, HS.out, if_neg he, ha]; simp [he])
          clear he ha
          go_wp2_with (go_at_call 86; refine (HAT.out _).mono ?_; rintro e w1 ⟨rfl, hb1⟩)
          go_roundw
          case rel => exact ⟨k + 1, s[k], by omega, by go_num, rfl, HV.out, HB.out.trans (hb1.mono HB.out.size)⟩
          case measure => simp [intOf]; omega
    · obtain rfl : k = s.size := by omega
      have HV : Hid (dottedB s = !decide (l = 46)) := Lib.hid (by rw [HD.out, List.drop_eq_nil_of_le (by rw [hbl.out]; omega)]; rfl)
      by_cases hl46 : l = 46
      · subst hl46
        go_wp2_with fail
        go_ret
        exact ⟨by rw [HV.out]; rfl, HB.out⟩
      · have i2 : ((l.toNat : Int) != 46) = true := by
          have : ((l.toNat : Int) == 46) = false := beq_false_of_ne (ne46 hl46)
          simp only [bne, this]; rfl
        have HW : Hid (dottedB s = true) := Lib.hid (by rw [HV.out]; simp [hl46])
        clear hl46
        go_wp2_with fail
        go_ret
        exact ⟨by rw [HW.out]; rfl, HB.out⟩
end Go.Proofs.YtddiolgeaefieaaDoor

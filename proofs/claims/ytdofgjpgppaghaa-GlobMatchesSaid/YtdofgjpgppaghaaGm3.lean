/- The reference's fits, walked. -/
import Derived.Test.YtdofgjpgppaghaaGm2
namespace Go.Proofs.Ytdofgjpgppaghaa
open Go.RowKit
set_option linter.unusedSimpArgs false
set_option linter.unusedVariables false
set_option maxRecDepth 20000 in
set_option maxHeartbeats 1000000 in
theorem fits_any (s p : ByteArray) (w : World) (hs : s.size ≤ 2000) (hp : p.size ≤ 100) :
    Calls Try.prog 63 #[.string s, .string p] w (FitPost s p w) := by
  have hbl := Lib.hid (bs_len s)
  have hbp := Lib.hid (bs_len p)
  go_enter Try.func63, Try.ntmps63
  go_wp2_with (refine wpList_make_arr rfl _ _ 94 4 1 (.bool false) rfl Try.underlying94 info_bool rfl rfl rfl (n := s.size + 1) (by omega) (by omega) (by omega) (by unfold maxLen; omega) ?_; intro w1 a1 b1 z1; have HA1 := Lib.hid a1; have c0 := a1.cell (j := 0) (by omega); have f0 := a1.free (j := 0) (by omega); clear a1)
  go_loopw [5, 6] (fun vn vk wr => ∃ (k : Nat) (L : List Pc) (b : Nat) (f : Nat → Bool), k ≤ p.size ∧ piecesOf (bs p) = L ++ piecesOf ((bs p).drop k) ∧ RowOk L (bs s) f ∧ vk = .int .i64 k ∧ vn = .slice (some ⟨b, 0, none⟩) (s.size + 1) (s.size + 1) ∧ w.heap.size ≤ b ∧ b < wr.heap.size ∧ Arr wr b (s.size + 1) (rowB f) ∧ Below w.heap.size w wr)
    (fun _ vk _ => p.size - (intOf vk).toNat)
  case atStart => exact ⟨0, [], w.heap.size, fun j => decide (j = 0), by omega, rfl, RowOk.start _, rfl, rfl, Nat.le_refl _, by simp; omega, HA1.out.set (by omega) _ (by simp [rowB]) (fun j hj hne => by simp [rowB, hne]), b1.setCell (by simp) _⟩
  case round =>
    obtain ⟨k, L, b, f, hk, hpl, hf, rfl, rfl, hbase, hbs, ha, hb⟩ := hrel
    have A0 := Lib.hid ha
    have B0 := Lib.hid hb
    have HL := Lib.hid hpl
    have HF := Lib.hid hf
    clear ha hb hpl hf HA1 c0 f0 b1 z1 w1
    by_cases hlt : k < p.size
    · have hpk := bs_get p k hlt
      have hdk := Lib.hid (drop_at hpk)
      by_cases hesc : p[k].toNat = 92 ∧ k + 1 < p.size
      · obtain ⟨e1, e2⟩ := hesc
        obtain ⟨x, hx⟩ : ∃ x : Pc, x = ⟨p[k + 1], false, false⟩ := ⟨_, rfl⟩
        have hfx := Lib.hid (HF.out.next x)
        have hl2 : Hid (piecesOf (bs p) = (L ++ [x]) ++ piecesOf ((bs p).drop (k + 2))) := Lib.hid (by
          rw [HL.out, hdk.out, drop_at (bs_get p (k + 1) e2), pieces_esc _ _ _ e1, hx, List.append_assoc]; rfl)
        have hmy := Lib.hid (show x.many = false by rw [hx])
        have hone := Lib.hid (show x.one = false by rw [hx])
        obtain ⟨cc, hcc0⟩ : ∃ c : UInt8, c = p[k + 1] := ⟨_, rfl⟩
        have hcc := Lib.hid (show x.c = cc by rw [hx, hcc0])
        have t1 : ((p[k].toNat : Int) == 92) = true := by rw [e1]; rfl
        have t3 : ((p[k].toNat : Int) == 42) = false := by rw [e1]; rfl
        have t4 : ((p[k].toNat : Int) == 63) = false := by rw [e1]; rfl
        have t2 : (k : Int) + 1 < p.size := by omega
        have e1' := Lib.hid e1
        have HCC := Lib.hid hcc0.symm
        clear hx e1 hpk hcc0
        go_wp2_with (refine wpList_make_arr rfl _ _ 94 4 1 (.bool false) rfl Try.underlying94 info_bool rfl rfl rfl (n := s.size + 1) (by omega) (by omega) (by omega) (by unfold maxLen; omega) ?_; intro w2 a2 bb2 zz2; have HA2 := Lib.hid a2; have HB2 := Lib.hid bb2; have HZ2 := Lib.hid zz2; clear a2 bb2 zz2)
        have HA1 := Lib.hid (A0.out.below HB2.out hbs)
        have HB := Lib.hid (B0.out.trans (HB2.out.mono B0.out.size))
        obtain ⟨z2, hz2'⟩ : ∃ z, z = w2.heap.size := ⟨_, rfl⟩
        have hz2 := Lib.hid hz2'.symm
        have hz3 : z2 = wr.heap.size + 1 := by have := HZ2.out; omega
        obtain ⟨b2, hb2⟩ : ∃ q, q = wr.heap.size := ⟨_, rfl⟩
        rw [← hb2] at HA2 ⊢
        have hb3 : b2 + 1 = z2 ∧ b < b2 ∧ w.heap.size ≤ b2 := by omega
        clear hz2' hb2 hz3
        rw [HCC.out]
        clear t1 t2 t3 t4 e1' HCC
        go_loopw [11] (fun vi wr' => ∃ i : Nat, i ≤ s.size + 1 ∧ vi = .int .i64 i ∧ Arr wr' b (s.size + 1) (rowB f) ∧ Arr wr' b2 (s.size + 1) (upB (rowNext x (bs s) f) i) ∧ Below w.heap.size w wr' ∧ wr'.heap.size = z2) (fun vi _ => s.size + 1 - (intOf vi).toNat)
        case atStart => exact ⟨0, by omega, rfl, HA1.out, HA2.out.fresh _, HB.out, hz2⟩
        case round =>
          obtain ⟨i, hi, rfl, ha, ha2, hb', hz⟩ := hrel
          have A1 := Lib.hid ha
          have A2 := Lib.hid ha2
          have BB := Lib.hid hb'
          have ZZ := Lib.hid hz
          clear ha ha2 hb' hz
          by_cases hle : i ≤ s.size
          · have fr2 := A2.out.free (j := i) (by omega)
            have old2 := A2.out.cell (j := i) (by omega)
            obtain ⟨ov, hov⟩ : ∃ v, v = upB (rowNext x (bs s) f) i i := ⟨_, rfl⟩
            rw [← hov] at old2
            clear hov
            by_cases h0 : i = 0
            · subst h0
              have HV := Lib.hid (next_one0 (s := bs s) (f := f) hmy.out)
              go_wp2_with fail
              go_roundw
              case rel => exact ⟨0 + 1, by omega, by go_num, A1.out, A2.out.stay HV.out, BB.out, ZZ.out⟩
              case measure => first | (simp [intOf]; done) | (simp [intOf]; omega)
            · have i1 : 0 < i := by omega
              have ie : ((i : Int) - 1).toNat = i - 1 := by omega
              have ig : (1 : Int) ≤ i := by omega
              have il : (i : Int) - 1 < s.size := by omega
              clear h0
              have c1 := A1.out.cell (j := i - 1) (by omega)
              unfold rowB at c1
              have hsb := bs_get s (i - 1) (by omega)
              have HN := Lib.hid (next_one (s := bs s) (f := f) hmy.out i1 hsb)
              have HSB := Lib.hid hsb
              clear hsb
              cases hf : f (i - 1)
              · rw [hf] at c1 HN
                have HV : Hid (rowNext x (bs s) f i = false) := Lib.hid (HN.out)
                go_wp2_with fail
                go_roundw
                case rel => exact ⟨i + 1, by omega, by go_num, A1.out.other (by simp; omega) _, A2.out.step (by omega) _ HV.out, BB.out.setCell (by simp; omega) _, by simpa using ZZ.out⟩
                case measure => first | (simp [intOf]; done) | (simp [intOf]; omega)
              · rw [hf] at c1 HN
                by_cases hh : x.hit s[i - 1] = true
                · rw [hh] at HN
                  have q2 : (((s[i - 1]'(by omega)).toNat : Int) == (cc.toNat : Int)) = true := by
                    unfold Pc.hit at hh
                    rw [hone.out, hcc.out] at hh
                    have : cc = s[i - 1] := by simpa using hh
                    rw [this]; simp
                  clear hh
                  have HV : Hid (rowNext x (bs s) f i = true) := Lib.hid (HN.out)
                  go_wp2_with fail
                  go_roundw
                  case rel => exact ⟨i + 1, by omega, by go_num, A1.out.other (by simp; omega) _, A2.out.step (by omega) _ HV.out, BB.out.setCell (by simp; omega) _, by simpa using ZZ.out⟩
                  case measure => first | (simp [intOf]; done) | (simp [intOf]; omega)
                · have hh' : x.hit s[i - 1] = false := by simpa using hh
                  rw [hh'] at HN
                  have q1 : x.one = false := by unfold Pc.hit at hh'; simp at hh'; exact hh'.1
                  have q2 : (((s[i - 1]'(by omega)).toNat : Int) == (x.c.toNat : Int)) = false := by unfold Pc.hit at hh'; simp at hh'; exact beq_false_of_ne fun h => hh'.2 (UInt8.toNat_inj.1 (by omega))
                  clear hh hh'
                  rw [hone.out] at q1
                  rw [hcc.out] at q2
                  clear q1
                  have HV : Hid (rowNext x (bs s) f i = false) := Lib.hid (HN.out)
                  go_wp2_with fail
                  go_roundw
                  case rel => exact ⟨i + 1, by omega, by go_num, A1.out.other (by simp; omega) _, A2.out.step (by omega) _ HV.out, BB.out.setCell (by simp; omega) _, by simpa using ZZ.out⟩
                  case measure => first | (simp [intOf]; done) | (simp [intOf]; omega)
          · obtain rfl : i = s.size + 1 := by omega
            have AD := Lib.hid A2.out.done
            go_wp2_with fail
            go_roundw
            case rel => exact ⟨k + 2, L ++ [x], b2, rowNext x (bs s) f, by omega, hl2.out, hfx.out, by go_num, rfl, by have := BB.out.size; omega, by have := ZZ.out; omega, AD.out, BB.out⟩
            case measure => first | (simp [intOf]; done) | (simp [intOf]; omega)

      · obtain ⟨x, hx⟩ : ∃ x : Pc, x = plainPc p[k] := ⟨_, rfl⟩
        have hfx := Lib.hid (HF.out.next x)
        have hl2 : Hid (piecesOf (bs p) = (L ++ [x]) ++ piecesOf ((bs p).drop (k + 1))) := Lib.hid (by
          rw [HL.out, hdk.out, pieces_plain _ _ (by
            by_cases e : p[k].toNat = 92
            · right
              rw [List.drop_eq_nil_of_le (by rw [hbp.out]; omega)]
            · exact .inl e), hx, List.append_assoc]; rfl)
        obtain ⟨st, hst⟩ : ∃ q : Bool, ((p[k].toNat : Int) == 42) = q := ⟨_, rfl⟩
        obtain ⟨an, han⟩ : ∃ q : Bool, ((p[k].toNat : Int) == 63) = q := ⟨_, rfl⟩
        have hmy := Lib.hid (show x.many = st by rw [hx, ← hst]; unfold plainPc; rw [Bool.eq_iff_iff]; simp; omega)
        have hone := Lib.hid (show x.one = an by rw [hx, ← han]; unfold plainPc; rw [Bool.eq_iff_iff]; simp; omega)
        obtain ⟨cc, hcc0⟩ : ∃ c : UInt8, c = p[k] := ⟨_, rfl⟩
        have hcc := Lib.hid (show x.c = cc by rw [hx, hcc0]; rfl)
        have HCC := Lib.hid hcc0.symm
        clear hx hpk hcc0
        have hne : ((p[k].toNat : Int) == 92) = false ∨ (((p[k].toNat : Int) == 92) = true ∧ ¬ ((k : Int) + 1 < p.size)) := by
          by_cases e : p[k].toNat = 92
          · right; exact ⟨by rw [e]; rfl, by omega⟩
          · left; exact beq_false_of_ne (by omega)
        clear hesc
        rcases hne with t1 | ⟨t1, t2⟩
        all_goals
          go_wp2_with (refine wpList_make_arr rfl _ _ 94 4 1 (.bool false) rfl Try.underlying94 info_bool rfl rfl rfl (n := s.size + 1) (by omega) (by omega) (by omega) (by unfold maxLen; omega) ?_; intro w2 a2 bb2 zz2; have HA2 := Lib.hid a2; have HB2 := Lib.hid bb2; have HZ2 := Lib.hid zz2; clear a2 bb2 zz2)
          have HA1 := Lib.hid (A0.out.below HB2.out hbs)
          have HB := Lib.hid (B0.out.trans (HB2.out.mono B0.out.size))
          obtain ⟨z2, hz2'⟩ : ∃ z, z = w2.heap.size := ⟨_, rfl⟩
          have hz2 := Lib.hid hz2'.symm
          have hz3 : z2 = wr.heap.size + 1 := by have := HZ2.out; omega
          obtain ⟨b2, hb2⟩ : ∃ q, q = wr.heap.size := ⟨_, rfl⟩
          rw [← hb2] at HA2 ⊢
          have hb3 : b2 + 1 = z2 ∧ b < b2 ∧ w.heap.size ≤ b2 := by omega
          clear hz2' hb2 hz3
          rw [HCC.out]
          clear t1 hst han HCC
          cases st
          · 
            go_loopw [11] (fun vi wr' => ∃ i : Nat, i ≤ s.size + 1 ∧ vi = .int .i64 i ∧ Arr wr' b (s.size + 1) (rowB f) ∧ Arr wr' b2 (s.size + 1) (upB (rowNext x (bs s) f) i) ∧ Below w.heap.size w wr' ∧ wr'.heap.size = z2) (fun vi _ => s.size + 1 - (intOf vi).toNat)
            case atStart => exact ⟨0, by omega, rfl, HA1.out, HA2.out.fresh _, HB.out, hz2⟩
            case round =>
              obtain ⟨i, hi, rfl, ha, ha2, hb', hz⟩ := hrel
              have A1 := Lib.hid ha
              have A2 := Lib.hid ha2
              have BB := Lib.hid hb'
              have ZZ := Lib.hid hz
              clear ha ha2 hb' hz
              by_cases hle : i ≤ s.size
              · have fr2 := A2.out.free (j := i) (by omega)
                have old2 := A2.out.cell (j := i) (by omega)
                obtain ⟨ov, hov⟩ : ∃ v, v = upB (rowNext x (bs s) f) i i := ⟨_, rfl⟩
                rw [← hov] at old2
                clear hov
                by_cases h0 : i = 0
                · subst h0
                  have HV := Lib.hid (next_one0 (s := bs s) (f := f) hmy.out)
                  go_wp2_with fail
                  go_roundw
                  case rel => exact ⟨0 + 1, by omega, by go_num, A1.out, A2.out.stay HV.out, BB.out, ZZ.out⟩
                  case measure => first | (simp [intOf]; done) | (simp [intOf]; omega)
                · have i1 : 0 < i := by omega
                  have ie : ((i : Int) - 1).toNat = i - 1 := by omega
                  have ig : (1 : Int) ≤ i := by omega
                  have il : (i : Int) - 1 < s.size := by omega
                  clear h0
                  have c1 := A1.out.cell (j := i - 1) (by omega)
                  unfold rowB at c1
                  have hsb := bs_get s (i - 1) (by omega)
                  have HN := Lib.hid (next_one (s := bs s) (f := f) hmy.out i1 hsb)
                  have HSB := Lib.hid hsb
                  clear hsb
                  cases hf : f (i - 1)
                  · rw [hf] at c1 HN
                    have HV : Hid (rowNext x (bs s) f i = false) := Lib.hid (HN.out)
                    go_wp2_with fail
                    go_roundw
                    case rel => exact ⟨i + 1, by omega, by go_num, A1.out.other (by simp; omega) _, A2.out.step (by omega) _ HV.out, BB.out.setCell (by simp; omega) _, by simpa using ZZ.out⟩
                    case measure => first | (simp [intOf]; done) | (simp [intOf]; omega)
                  · rw [hf] at c1 HN
                    by_cases hh : x.hit s[i - 1] = true
                    · rw [hh] at HN
                      cases an
                      · have q2 : (((s[i - 1]'(by omega)).toNat : Int) == (cc.toNat : Int)) = true := by
                          unfold Pc.hit at hh
                          rw [hone.out, hcc.out] at hh
                          have : cc = s[i - 1] := by simpa using hh
                          rw [this]; simp
                        clear hh
                        have HV : Hid (rowNext x (bs s) f i = true) := Lib.hid (HN.out)
                        go_wp2_with fail
                        go_roundw
                        case rel => exact ⟨i + 1, by omega, by go_num, A1.out.other (by simp; omega) _, A2.out.step (by omega) _ HV.out, BB.out.setCell (by simp; omega) _, by simpa using ZZ.out⟩
                        case measure => first | (simp [intOf]; done) | (simp [intOf]; omega)
                      · clear hh
                        have HV : Hid (rowNext x (bs s) f i = true) := Lib.hid (HN.out)
                        go_wp2_with fail
                        go_roundw
                        case rel => exact ⟨i + 1, by omega, by go_num, A1.out.other (by simp; omega) _, A2.out.step (by omega) _ HV.out, BB.out.setCell (by simp; omega) _, by simpa using ZZ.out⟩
                        case measure => first | (simp [intOf]; done) | (simp [intOf]; omega)
                    · have hh' : x.hit s[i - 1] = false := by simpa using hh
                      rw [hh'] at HN
                      have q1 : x.one = false := by unfold Pc.hit at hh'; simp at hh'; exact hh'.1
                      have q2 : (((s[i - 1]'(by omega)).toNat : Int) == (x.c.toNat : Int)) = false := by unfold Pc.hit at hh'; simp at hh'; exact beq_false_of_ne fun h => hh'.2 (UInt8.toNat_inj.1 (by omega))
                      clear hh hh'
                      rw [hone.out] at q1
                      rw [hcc.out] at q2
                      subst q1
                      have HV : Hid (rowNext x (bs s) f i = false) := Lib.hid (HN.out)
                      go_wp2_with fail
                      go_roundw
                      case rel => exact ⟨i + 1, by omega, by go_num, A1.out.other (by simp; omega) _, A2.out.step (by omega) _ HV.out, BB.out.setCell (by simp; omega) _, by simpa using ZZ.out⟩
                      case measure => first | (simp [intOf]; done) | (simp [intOf]; omega)
              · obtain rfl : i = s.size + 1 := by omega
                have AD := Lib.hid A2.out.done
                go_wp2_with fail
                go_roundw
                case rel => exact ⟨k + 1, L ++ [x], b2, rowNext x (bs s) f, by omega, hl2.out, hfx.out, by go_num, rfl, by have := BB.out.size; omega, by have := ZZ.out; omega, AD.out, BB.out⟩
                case measure => first | (simp [intOf]; done) | (simp [intOf]; omega)

          · 
            go_loopw [11] (fun vi wr' => ∃ i : Nat, i ≤ s.size + 1 ∧ vi = .int .i64 i ∧ Arr wr' b (s.size + 1) (rowB f) ∧ Arr wr' b2 (s.size + 1) (upB (rowNext x (bs s) f) i) ∧ Below w.heap.size w wr' ∧ wr'.heap.size = z2) (fun vi _ => s.size + 1 - (intOf vi).toNat)
            case atStart => exact ⟨0, by omega, rfl, HA1.out, HA2.out.fresh _, HB.out, hz2⟩
            case round =>
              obtain ⟨i, hi, rfl, ha, ha2, hb', hz⟩ := hrel
              have A1 := Lib.hid ha
              have A2 := Lib.hid ha2
              have BB := Lib.hid hb'
              have ZZ := Lib.hid hz
              clear ha ha2 hb' hz
              by_cases hle : i ≤ s.size
              · have fr2 := A2.out.free (j := i) (by omega)
                have old2 := A2.out.cell (j := i) (by omega)
                obtain ⟨ov, hov⟩ : ∃ v, v = upB (rowNext x (bs s) f) i i := ⟨_, rfl⟩
                rw [← hov] at old2
                clear hov
                by_cases h0 : i = 0
                · subst h0
                  have c1 := A1.out.cell (j := 0) (by omega)
                  unfold rowB at c1
                  have HN := Lib.hid (next_many0 (s := bs s) (f := f) hmy.out)
                  cases hf : f 0
                  · rw [hf] at c1 HN
                    have HV : Hid (rowNext x (bs s) f 0 = false) := Lib.hid (HN.out)
                    go_wp2_with fail
                    go_roundw
                    case rel => exact ⟨0 + 1, by omega, by go_num, A1.out.other (by simp; omega) _, A2.out.step (by omega) _ HV.out, BB.out.setCell (by simp; omega) _, by simpa using ZZ.out⟩
                    case measure => first | (simp [intOf]; done) | (simp [intOf]; omega)
                  · rw [hf] at c1 HN
                    have HV : Hid (rowNext x (bs s) f 0 = true) := Lib.hid (HN.out)
                    go_wp2_with fail
                    go_roundw
                    case rel => exact ⟨0 + 1, by omega, by go_num, A1.out.other (by simp; omega) _, A2.out.step (by omega) _ HV.out, BB.out.setCell (by simp; omega) _, by simpa using ZZ.out⟩
                    case measure => first | (simp [intOf]; done) | (simp [intOf]; omega)
                · have i1 : 0 < i := by omega
                  have ie : ((i : Int) - 1).toNat = i - 1 := by omega
                  have ig : (1 : Int) ≤ i := by omega
                  have il : (i : Int) - 1 < s.size := by omega
                  clear h0
                  have c1 := A1.out.cell (j := i) (by omega)
                  have c2 := A2.out.cell (j := i - 1) (by omega)
                  unfold rowB at c1
                  unfold upB at c2
                  rw [if_pos (by omega)] at c2
                  have HN := Lib.hid (next_many (s := bs s) (f := f) hmy.out i1)
                  cases hf : f i
                  · rw [hf] at c1 HN
                    cases hg : rowNext x (bs s) f (i - 1)
                    · rw [hg] at c2 HN
                      clear hg
                      have HV : Hid (rowNext x (bs s) f i = false) := Lib.hid (HN.out)
                      go_wp2_with fail
                      go_roundw
                      case rel => exact ⟨i + 1, by omega, by go_num, A1.out.other (by simp; omega) _, A2.out.step (by omega) _ HV.out, BB.out.setCell (by simp; omega) _, by simpa using ZZ.out⟩
                      case measure => first | (simp [intOf]; done) | (simp [intOf]; omega)
                    · rw [hg] at c2 HN
                      clear hg
                      have HV : Hid (rowNext x (bs s) f i = true) := Lib.hid (HN.out)
                      go_wp2_with fail
                      go_roundw
                      case rel => exact ⟨i + 1, by omega, by go_num, A1.out.other (by simp; omega) _, A2.out.step (by omega) _ HV.out, BB.out.setCell (by simp; omega) _, by simpa using ZZ.out⟩
                      case measure => first | (simp [intOf]; done) | (simp [intOf]; omega)
                  · rw [hf] at c1 HN
                    clear c2
                    have HV : Hid (rowNext x (bs s) f i = true) := Lib.hid (HN.out)
                    go_wp2_with fail
                    go_roundw
                    case rel => exact ⟨i + 1, by omega, by go_num, A1.out.other (by simp; omega) _, A2.out.step (by omega) _ HV.out, BB.out.setCell (by simp; omega) _, by simpa using ZZ.out⟩
                    case measure => first | (simp [intOf]; done) | (simp [intOf]; omega)
              · obtain rfl : i = s.size + 1 := by omega
                have AD := Lib.hid A2.out.done
                go_wp2_with fail
                go_roundw
                case rel => exact ⟨k + 1, L ++ [x], b2, rowNext x (bs s) f, by omega, hl2.out, hfx.out, by go_num, rfl, by have := BB.out.size; omega, by have := ZZ.out; omega, AD.out, BB.out⟩
                case measure => first | (simp [intOf]; done) | (simp [intOf]; omega)

    · obtain rfl : k = p.size := by omega
      have HR : Hid (f s.size = true ↔ PM (piecesOf (bs p)) (bs s)) := Lib.hid (by
        have h1 := HL.out
        rw [List.drop_eq_nil_of_le (by rw [hbp.out]; omega), pieces_nil, List.append_nil] at h1
        rw [h1, HF.out s.size (by rw [hbl.out]; omega), List.take_of_length_le (by rw [hbl.out]; omega)])
      have c1 := A0.out.cell (j := s.size) (by omega)
      unfold rowB at c1
      obtain ⟨r, hr⟩ : ∃ r, r = f s.size := ⟨_, rfl⟩
      rw [← hr] at c1 HR
      clear hr
      go_wp2_with fail
      go_ret
      exact ⟨r, rfl, HR.out, B0.out⟩
end Go.Proofs.Ytdofgjpgppaghaa

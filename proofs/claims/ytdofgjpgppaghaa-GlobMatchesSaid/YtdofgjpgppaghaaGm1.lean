/- glob.matches: the last star takes one more. -/
import Derived.Test.YtdofgjpgppaghaaGm0
import Derived.Test.YtdofgjpgppaghaaFlat
import Derived.Test.YtdofgjpgppaghaaStr
import Derived.Outline
namespace Go.Proofs.Ytdofgjpgppaghaa
open Go.RowKit
set_option linter.unusedSimpArgs false
set_option linter.unusedVariables false
def pcF : Flat Pc := ⟨3, fun x => [.int .u8 x.c.toNat, .bool x.one, .bool x.many], fun _ => rfl, fun x u hu => by
  simp at hu
  rcases hu with rfl | rfl | rfl <;> rfl, by decide⟩
theorem pc_cell {w : World} {D : Nat → Prop} {A : Option Addr} {n c : Nat} {l : List Pc} (h : RF pcF w D (.slice A n c) l) {i : Nat} (hi : i < n) :
    ∃ b off x, A = some ⟨b, off, none⟩ ∧ D b ∧ l[i]? = some x ∧ w.cell? ⟨b, off + i * 3, none⟩ = some (.int .u8 x.c.toNat) ∧ w.cell? ⟨b, off + i * 3 + 1, none⟩ = some (.bool x.one) ∧ w.cell? ⟨b, off + i * 3 + 2, none⟩ = some (.bool x.many) := by
  obtain ⟨b, off, x, e, hb, hx, hc⟩ := h.at_ hi
  exact ⟨b, off, x, e, hb, hx, hc 0 _ rfl, hc 1 _ rfl, hc 2 _ rfl⟩
/-- a yes or no that tells a truth; the world only drew -/
def Told (p : Prop) (w : World) (e : Ending) (w' : World) : Prop := ∃ b, e = .returned (.bool b) ∧ (b = true ↔ p) ∧ ∃ d, w' = w.drewN d
theorem Told.yes {p : Prop} (hp : p) (w : World) (d : Nat) : Told p w (.returned (.bool true)) (w.drewN d) := ⟨true, rfl, by simp [hp], d, rfl⟩
theorem Told.no {p : Prop} (hp : ¬ p) (w : World) (d : Nat) : Told p w (.returned (.bool false)) (w.drewN d) := ⟨false, rfl, by simp [hp], d, rfl⟩
def stI : Option Nat → Int
  | none => -1
  | some j => j
theorem gr_less {S L fr k fr' k' : Nat} (hk : k < L) (h : (fr = fr' ∧ k' = k + 1) ∨ (fr < fr' ∧ fr' ≤ S)) : (S - fr') * L + (L - k') < (S - fr) * L + (L - k) := by
  rcases h with ⟨rfl, rfl⟩ | ⟨h1, h2⟩
  · omega
  · have h3 : (S - fr') * L + L ≤ (S - fr) * L := by
      rw [← Nat.succ_mul]
      exact Nat.mul_le_mul_right _ (by omega)
    omega
set_option maxRecDepth 20000 in
theorem matches_any (s : ByteArray) (v : Value) (l : List Pc) (w : World) (hs : s.size ≤ 2000) (hl : l.length ≤ 100) (h : RF pcF w (· < w.heap.size) v l) :
    Calls Try.prog 50 #[.string s, v] w (Told (PM l (bs s)) w) := by
  obtain ⟨A, c, rfl, h⟩ := h.ex
  have H := Lib.hid h
  have hbl := Lib.hid (bs_len s)
  clear h
  go_enter Try.func50, Try.ntmps50
  go_wp2_with fail
  go_loopw [5, 6, 7, 8] (fun vi vk vs vf wr => ∃ (i k fr : Nat) (st : Option Nat), Gr l (bs s) i k st fr ∧ vi = .int .i64 i ∧ vk = .int .i64 k ∧ vs = .int .i64 (stI st) ∧ vf = .int .i64 fr ∧ ∃ d, wr = w.drewN d)
    (fun _ vk _ vf _ => (s.size + 1 - (intOf vf).toNat) * (l.length + 1) + (l.length + 1 - (intOf vk).toNat))
  case atStart => exact ⟨0, 0, 0, none, Gr.start _ _, rfl, rfl, rfl, rfl, 0, rfl⟩
  case round =>
    obtain ⟨i, k, fr, st, hg, rfl, rfl, rfl, rfl, d, rfl⟩ := hrel
    have gi := hg.hi
    have gk := hg.hk
    have gf := hg.hf
    rw [hbl.out] at gi
    have HG := Lib.hid hg
    clear hg
    by_cases hi : i < s.size
    · have HB := Lib.hid (bs_get s i hi)
      by_cases hk : k < l.length
      · obtain ⟨b, off, x, rfl, _, hx, hc0, hc1, hc2⟩ := pc_cell H.out hk
        have HX := Lib.hid hx
        obtain ⟨xc, x1, xm⟩ := x
        dsimp only at hc0 hc1 hc2
        clear hx
        cases xm
        · by_cases hh : x1 = true ∨ xc = s[i]
          · have HH := Lib.hid (HG.out.hit HX.out HB.out rfl (by unfold Pc.hit; rcases hh with rfl | rfl <;> simp))
            cases x1
            · have e : xc = s[i] := by rcases hh with h | h; cases h; exact h
              subst e
              clear hh
              go_wp2_with fail
              go_quiet (fail)
              go_wp2_with fail
              go_roundw
              case rel => exact ⟨i + 1, k + 1, fr, st, HH.out, by go_num, by go_num, rfl, rfl, _, rfl⟩
              case measure => simp only [intOf]; exact gr_less (by omega) (.inl ⟨rfl, by omega⟩)
            · clear hh
              go_wp2_with fail
              go_quiet (fail)
              go_wp2_with fail
              go_roundw
              case rel => exact ⟨i + 1, k + 1, fr, st, HH.out, by go_num, by go_num, rfl, rfl, _, rfl⟩
              case measure => simp only [intOf]; exact gr_less (by omega) (.inl ⟨rfl, by omega⟩)
          · have hm : Miss l (bs s) i k := ⟨by rw [bs_len]; exact hi, fun y hy => by
              rw [HX.out] at hy
              injection hy with hy
              subst hy
              refine ⟨rfl, fun b hb => ?_⟩
              rw [HB.out] at hb
              injection hb with hb
              subst hb
              unfold Pc.hit
              simp at hh ⊢
              exact ⟨hh.1, hh.2⟩⟩
            have e1 : x1 = false := by simp at hh; exact hh.1
            subst e1
            have e2 : ((xc.toNat : Int) == (s[i].toNat : Int)) = false := beq_false_of_ne fun h => hh (.inr (UInt8.toNat_inj.1 (by omega)))
            have HM := Lib.hid hm
            clear hm hh
            cases st with
            | none =>
              rw [show stI none = -1 from rfl]
              have HF := Lib.hid (HG.out.miss_none HM.out)
              go_wp2_with fail
              go_quiet (fail)
              go_wp2_with fail
              go_ret
              exact Told.no HF.out _ _
            | some j =>
              rw [show stI (some j) = (j : Int) from rfl]
              have HF := Lib.hid (HG.out.miss_some HM.out)
              have hj := HF.out.hk
              go_wp2_with fail
              go_quiet (fail)
              go_wp2_with fail
              go_roundw
              case rel => exact ⟨fr + 1, j + 1, fr + 1, some j, HF.out, by go_num, by go_num, rfl, by go_num, _, rfl⟩
              case measure => simp only [intOf]; exact gr_less (by omega) (.inr ⟨by omega, by omega⟩)
        · have HH := Lib.hid (HG.out.many HX.out rfl)
          go_wp2_with fail
          go_roundw
          case rel => exact ⟨i, k + 1, i, some k, HH.out, rfl, by go_num, rfl, rfl, _, rfl⟩
          case measure =>
            simp only [intOf]
            exact gr_less (by omega) (by omega)
      · have e1 : decide (k < l.length) = false := by simpa using hk
        have HM : Hid (Miss l (bs s) i k) := Lib.hid ⟨by rw [bs_len]; exact hi, fun y hy => absurd (List.getElem?_eq_some_iff.1 hy) (fun h => hk h.1)⟩
        have hk' : l.length ≤ k := by omega
        clear hk
        cases st with
        | none =>
          rw [show stI none = -1 from rfl]
          have HF := Lib.hid (HG.out.miss_none HM.out)
          go_wp2_with fail
          go_quiet (fail)
          go_wp2_with fail
          go_ret
          exact Told.no HF.out _ _
        | some j =>
          rw [show stI (some j) = (j : Int) from rfl]
          have HF := Lib.hid (HG.out.miss_some HM.out)
          have hj := HF.out.hk
          go_wp2_with fail
          go_quiet (fail)
          go_wp2_with fail
          go_roundw
          case rel => exact ⟨fr + 1, j + 1, fr + 1, some j, HF.out, by go_num, by go_num, rfl, by go_num, _, rfl⟩
          case measure => simp only [intOf]; exact gr_less (by omega) (.inr ⟨by omega, by omega⟩)
    · obtain rfl : i = s.size := by omega
      have HE : Hid (PM l (bs s) ↔ ∀ x ∈ l.drop k, x.many = true) := Lib.hid (by
        have := HG.out
        rw [← hbl.out] at this
        exact this.end_)
      clear hi
      go_wp2_with fail
      go_loopw [6] (fun vk wr => ∃ m : Nat, k ≤ m ∧ m ≤ l.length ∧ (∀ x, x ∈ (l.drop k).take (m - k) → x.many = true) ∧ vk = .int .i64 m ∧ ∃ d, wr = w.drewN d) (fun vk _ => l.length - (intOf vk).toNat)
      case atStart => exact ⟨k, Nat.le_refl _, gk, by simp, rfl, d, rfl⟩
      case round =>
        obtain ⟨m, m1, m2, hm, rfl, d', rfl⟩ := hrel
        have HA := Lib.hid hm
        clear hm
        by_cases hlt : m < l.length
        · obtain ⟨b, off, x, rfl, _, hx, hc0, hc1, hc2⟩ := pc_cell H.out hlt
          have HX := Lib.hid hx
          obtain ⟨xc, x1, xm⟩ := x
          dsimp only at hc0 hc1 hc2
          clear hx
          have ht : Hid ((l.drop k).take (m + 1 - k) = (l.drop k).take (m - k) ++ [⟨xc, x1, xm⟩]) := Lib.hid (by
            rw [show m + 1 - k = m - k + 1 by omega, List.take_add_one, List.getElem?_drop, show k + (m - k) = m by omega, HX.out]; rfl)
          cases xm
          · have HF : Hid (¬ PM l (bs s)) := Lib.hid (fun h => by
              have := HE.out.1 h ⟨xc, x1, false⟩ (List.mem_of_getElem? (i := m - k) (by rw [List.getElem?_drop, show k + (m - k) = m by omega, HX.out]))
              cases this)
            have e1 : ((m : Int) == (l.length : Int)) = false := beq_false_of_ne (by omega)
            go_wp2_with fail
            go_ret
            exact Told.no HF.out _ _
          · go_wp2_with fail
            go_roundw
            case rel =>
              refine ⟨m + 1, by omega, by omega, fun x hx => ?_, by go_num, _, rfl⟩
              rw [ht.out] at hx
              rcases List.mem_append.1 hx with hx | hx
              · exact HA.out x hx
              · rw [List.mem_singleton.1 hx]
            case measure => simp [intOf]; omega
        · obtain rfl : m = l.length := by omega
          have HF : Hid (PM l (bs s)) := Lib.hid (HE.out.2 fun x hx => HA.out x (by rw [List.take_of_length_le (by rw [List.length_drop]; omega)]; exact hx))
          go_wp2_with fail
          go_ret
          exact Told.yes HF.out _ _
end Go.Proofs.Ytdofgjpgppaghaa

/- glob.Match and MatchOf: P1.2. -/
import Derived.Test.YtdofgjpgppaghaaGm3
import Derived.Test.YtdofgjpgppaghaaGm4
import Derived.Test.YtdofgjpgppaghaaGm6
import Derived.Test.YtdofgjpgppaghaaLib0
import Derived.Test.YtdofgjpgppaghaaRule
import Derived.Test.YtdofgjpgppaghaaGlobL
namespace Go.Proofs.Ytdofgjpgppaghaa
open Go.RowKit
set_option linter.unusedSimpArgs false
set_option linter.unusedVariables false
/-- what the kinds ask -/
def Asks (kind : Int) (s p : ByteArray) : Prop := (kind = 1 ∧ foldL s = foldL p) ∨ (kind = 2 ∧ ∃ i, AtIn (mk (foldL s)) (mk (foldL p)) i) ∨ (kind = 3 ∧ PM (piecesOf (foldL p)) (foldL s))
noncomputable def asksB (kind : Int) (s p : ByteArray) : Bool := @decide (Asks kind s p) (Classical.propDecidable _)
def matchE (kind : Int) (s p : ByteArray) : Int := if kind < 1 ∨ 3 < kind then 2 else if 2000 < s.size ∨ 100 < p.size then 1 else 0
noncomputable def matchB (kind : Int) (s p : ByteArray) : Bool := if matchE kind s p = 0 then asksB kind s p else false
theorem asksB_of {kind : Int} {s p : ByteArray} {b : Bool} (h : b = true ↔ Asks kind s p) : asksB kind s p = b := by
  unfold asksB
  rw [Bool.eq_iff_iff, @decide_eq_true_iff _ (Classical.propDecidable (Asks kind s p))]
  exact h.symm
theorem asks1 (s p : ByteArray) : Asks 1 s p ↔ foldL s = foldL p := by unfold Asks; simp
theorem asks2 (s p : ByteArray) : Asks 2 s p ↔ ∃ i, AtIn (mk (foldL s)) (mk (foldL p)) i := by unfold Asks; simp
theorem asks3 (s p : ByteArray) : Asks 3 s p ↔ PM (piecesOf (foldL p)) (foldL s) := by unfold Asks; simp
def Mat (kind : Int) (s p : ByteArray) (w : World) (e : Ending) (w' : World) : Prop := e = .returned (.tuple #[.bool (matchB kind s p), .int .i64 (matchE kind s p)]) ∧ Below w.heap.size w w'
theorem matchE_kind {kind : Int} {s p : ByteArray} (h : kind < 1 ∨ 3 < kind) : matchE kind s p = 2 := if_pos h
theorem matchE_size {kind : Int} {s p : ByteArray} (h1 : 1 ≤ kind) (h3 : kind ≤ 3) (h : 2000 < s.size ∨ 100 < p.size) : matchE kind s p = 1 := by unfold matchE; rw [if_neg (by omega), if_pos h]
theorem matchE_ok {kind : Int} {s p : ByteArray} (h1 : 1 ≤ kind) (h3 : kind ≤ 3) (h : s.size ≤ 2000) (h' : p.size ≤ 100) : matchE kind s p = 0 := by unfold matchE; rw [if_neg (by omega), if_neg (by omega)]
theorem matchB_bad {kind : Int} {s p : ByteArray} (h : matchE kind s p ≠ 0) : matchB kind s p = false := if_neg h
theorem matchB_ok {kind : Int} {s p : ByteArray} (h : matchE kind s p = 0) : matchB kind s p = asksB kind s p := if_pos h
theorem fold_beq (s p : ByteArray) : ((mk (foldL s)).toList == (mk (foldL p)).toList) = asksB 1 s p := by
  symm
  apply asksB_of
  rw [asks1, beq_iff_eq]
  constructor
  · intro h
    have := congrArg bs (toList_inj h)
    rwa [bs_mk, bs_mk] at this
  · intro h; rw [h]
set_option maxRecDepth 20000 in
theorem Match_any (kind : Int) (s p : ByteArray) (w : World) (hs : s.size ≤ maxLen) (hp : p.size ≤ maxLen) (h0 : Lib0 w) :
    Calls Try.prog 30 #[.int .i64 kind, .string s, .string p] w (Mat kind s p w) := by
  unfold maxLen at hs hp
  by_cases hk : kind < 1 ∨ 3 < kind
  · have HE := Lib.hid (matchE_kind (s := s) (p := p) hk)
    have HB := Lib.hid (matchB_bad (s := s) (p := p) (kind := kind) (by rw [HE.out]; decide))
    rcases hk with hk | hk
    all_goals
      go_enter Try.func30, Try.ntmps30
      go_wp2_with fail
      go_ret2
      exact ⟨by rw [HE.out, HB.out]; rfl, Below.refl _ _⟩
  · have k1 : 1 ≤ kind := by omega
    have k3 : kind ≤ 3 := by omega
    clear hk
    by_cases hz : 2000 < s.size ∨ 100 < p.size
    · have HE := Lib.hid (matchE_size (s := s) (p := p) k1 k3 hz)
      have HB := Lib.hid (matchB_bad (s := s) (p := p) (kind := kind) (by rw [HE.out]; decide))
      rcases hz with hz | hz
      · have hz' : (2000 : Int) < s.size := by omega
        go_enter Try.func30, Try.ntmps30
        go_wp2_with fail
        go_ret2
        exact ⟨by rw [HE.out, HB.out]; rfl, Below.refl _ _⟩
      · have hz' : (100 : Int) < p.size := by omega
        by_cases hy : (2000 : Int) < s.size
        all_goals
          go_enter Try.func30, Try.ntmps30
          go_wp2_with fail
          go_ret2
          exact ⟨by rw [HE.out, HB.out]; rfl, Below.refl _ _⟩
    · have s1 : s.size ≤ 2000 := by omega
      have p1 : p.size ≤ 100 := by omega
      have HE := Lib.hid (matchE_ok (s := s) (p := p) k1 k3 s1 p1)
      have HB := Lib.hid (matchB_ok HE.out)
      clear hz hs hp
      have i1 : ¬ ((2000 : Int) < s.size) := by omega
      have i2 : ¬ ((100 : Int) < p.size) := by omega
      have i3 : decide ((100 : Int) < p.size) = false := by simpa using i2
      by_cases hk3 : kind = 3
      · subst hk3
        refine (Match_pat s p w s1 p1).mono ?_
        rintro e w' ⟨b, rfl, hb, hw⟩
        refine ⟨?_, hw⟩
        rw [HE.out, HB.out, asksB_of (by rw [asks3]; exact hb)]
      · by_cases hk1 : kind = 1
        · subst hk1
          have HF := Lib.hid (fold_beq s p)
          have tok : True := trivial
          clear i2
          go_enter Try.func30, Try.ntmps30
          go_wp2_with (first
            | (go_at_call 33; clear tok; refine (fold_any _ _ (by omega)).mono ?_; rintro e w1 ⟨rfl, hb1⟩)
            | (go_at_call 33; refine (fold_any _ _ (by omega)).mono ?_; rintro e w2 ⟨rfl, hb2⟩))
          go_ret2
          refine ⟨?_, hb1.trans (hb2.mono hb1.size)⟩
          rw [HE.out, HB.out, ← HF.out]
          rfl
        · obtain rfl : kind = 2 := by omega
          have tok : True := trivial
          clear i2
          have HL := Lib.hid h0
          clear h0
          go_enter Try.func30, Try.ntmps30
          go_wp2_with (first
            | (go_at_call 33; clear tok; refine (fold_any _ _ (by omega)).mono ?_; rintro e w1 ⟨rfl, hb1⟩)
            | (go_at_call 33; refine (fold_any _ _ (by omega)).mono ?_; rintro e w2 ⟨rfl, hb2⟩))
          obtain ⟨_, m, hm⟩ := (HL.out.below hb1).below hb2
          refine (Try.strings_Contains (mk (foldL s)) (mk (foldL p)) m _ (by rw [mk_size, foldL_len]; omega) hm).mono ?_
          rintro e w3 ⟨rfl, rfl⟩
          go_wp2_with fail
          go_ret2
          refine ⟨?_, hb1.trans (hb2.mono hb1.size)⟩
          rw [HE.out, HB.out, asksB_of (by rw [asks2]; exact (contains_iff (mk (foldL s)) (mk (foldL p))))]
          rfl
def Matd (kind : Int) (s p : ByteArray) (w : World) (e : Ending) (w' : World) : Prop := e = .returned (.bool (asksB kind s p)) ∧ Below w.heap.size w w'
set_option maxRecDepth 20000 in
theorem matched_any (kind : Int) (s p : ByteArray) (w : World) (s1 : s.size ≤ 2000) (p1 : p.size ≤ 100) (k1 : 1 ≤ kind) (k3 : kind ≤ 3) :
    Calls Try.prog 51 #[.int .i64 kind, .string s, .string p] w (Matd kind s p w) := by
  have tok : True := trivial
  by_cases hk1 : kind = 1
  · subst hk1
    have HF := Lib.hid (fold_beq s p)
    go_enter Try.func51, Try.ntmps51
    go_wp2_with (first
      | (go_at_call 34; clear tok; refine (lower_any _ _ (by omega)).mono ?_; rintro e w1 ⟨rfl, hb1⟩)
      | (go_at_call 34; refine (lower_any _ _ (by omega)).mono ?_; rintro e w2 ⟨rfl, hb2⟩))
    go_ret
    refine ⟨?_, hb1.trans (hb2.mono hb1.size)⟩
    rw [← HF.out]
    rfl
  · have e1 : (kind == 1) = false := by simpa using hk1
    have hzs : (mk (foldL s)).size = s.size := by rw [mk_size, foldL_len]
    have hzp : (mk (foldL p)).size = p.size := by rw [mk_size, foldL_len]
    have hrs : bs (mk (foldL s)) = foldL s := bs_mk _
    have hrp : bs (mk (foldL p)) = foldL p := bs_mk _
    by_cases hk2 : kind = 2
    · subst hk2
      have HT : Hid (∀ b : Bool, (b = true ↔ ∃ i, AtIn (mk (foldL s)) (mk (foldL p)) i) → asksB 2 s p = b) := Lib.hid fun b hb => asksB_of (by rw [asks2]; exact hb)
      have HI := Lib.hid (fun wx => inside_any (mk (foldL s)) (mk (foldL p)) wx (by rw [hzs]; omega) (by rw [hzp]; omega))
      clear hzs hzp hrs hrp hk1
      go_enter Try.func51, Try.ntmps51
      go_wp2_with (first
        | (go_at_call 34; clear tok; refine (lower_any _ _ (by omega)).mono ?_; rintro e w1 ⟨rfl, hb1⟩)
        | (go_at_call 34; refine (lower_any _ _ (by omega)).mono ?_; rintro e w2 ⟨rfl, hb2⟩))
      refine (HI.out _).mono ?_
      rintro e w3 ⟨b, rfl, hb, d, rfl⟩
      have hb' := HT.out b hb
      have HBB := Lib.hid hb'
      clear hb hb'
      go_wp2_with fail
      go_ret
      exact ⟨by rw [HBB.out]; rfl, below_drewN (hb1.trans (hb2.mono hb1.size)) _⟩
    · obtain rfl : kind = 3 := by omega
      have HT : Hid (∀ b : Bool, (b = true ↔ PM (piecesOf (bs (mk (foldL p)))) (bs (mk (foldL s)))) → asksB 3 s p = b) := Lib.hid fun b hb => asksB_of (by rw [asks3, ← hrs, ← hrp]; exact hb)
      have HI := Lib.hid (fun wx => fits_any (mk (foldL s)) (mk (foldL p)) wx (by rw [hzs]; omega) (by rw [hzp]; omega))
      clear hzs hzp hrs hrp hk1 hk2
      go_enter Try.func51, Try.ntmps51
      go_wp2_with (first
        | (go_at_call 34; clear tok; refine (lower_any _ _ (by omega)).mono ?_; rintro e w1 ⟨rfl, hb1⟩)
        | (go_at_call 34; refine (lower_any _ _ (by omega)).mono ?_; rintro e w2 ⟨rfl, hb2⟩))
      refine (HI.out _).mono ?_
      rintro e w3 ⟨b, rfl, hb, hb3⟩
      have hb' := HT.out b hb
      have HBB := Lib.hid hb'
      clear hb hb'
      go_wp2_with fail
      go_ret
      exact ⟨by rw [HBB.out]; rfl, (hb1.trans (hb2.mono hb1.size)).trans (hb3.mono (by have := hb1.size; have := hb2.size; omega))⟩
set_option maxRecDepth 20000 in
theorem MatchOf_any (kind : Int) (s p : ByteArray) (w : World) (hs : s.size ≤ maxLen) (hp : p.size ≤ maxLen) :
    Calls Try.prog 31 #[.int .i64 kind, .string s, .string p] w (Mat kind s p w) := by
  unfold maxLen at hs hp
  by_cases hk : kind < 1 ∨ 3 < kind
  · have HE := Lib.hid (matchE_kind (s := s) (p := p) hk)
    have HB := Lib.hid (matchB_bad (s := s) (p := p) (kind := kind) (by rw [HE.out]; decide))
    go_enter Try.func31, Try.ntmps31
    go_wp2_with (go_at_call 32; refine (In_no _ _ _ _ hk).mono ?_; rintro e w' ⟨rfl, rfl⟩)
    go_ret2
    exact ⟨by rw [HE.out, HB.out]; rfl, Below.refl _ _⟩
  · have k1 : 1 ≤ kind := by omega
    have k3 : kind ≤ 3 := by omega
    clear hk
    by_cases hz : 2000 < s.size ∨ 100 < p.size
    · have HE := Lib.hid (matchE_size (s := s) (p := p) k1 k3 hz)
      have HB := Lib.hid (matchB_bad (s := s) (p := p) (kind := kind) (by rw [HE.out]; decide))
      rcases hz with hz | hz
      · have hz' : (2000 : Int) < s.size := by omega
        go_enter Try.func31, Try.ntmps31
        go_wp2_with (go_at_call 32; refine (In_yes _ _ _ _ k1 k3).mono ?_; rintro e w' ⟨rfl, rfl⟩)
        go_ret2
        exact ⟨by rw [HE.out, HB.out]; rfl, Below.refl _ _⟩
      · have hz' : (100 : Int) < p.size := by omega
        by_cases hy : (2000 : Int) < s.size
        all_goals
          go_enter Try.func31, Try.ntmps31
          go_wp2_with (go_at_call 32; refine (In_yes _ _ _ _ k1 k3).mono ?_; rintro e w' ⟨rfl, rfl⟩)
          go_ret2
          exact ⟨by rw [HE.out, HB.out]; rfl, Below.refl _ _⟩
    · have s1 : s.size ≤ 2000 := by omega
      have p1 : p.size ≤ 100 := by omega
      have HE := Lib.hid (matchE_ok (s := s) (p := p) k1 k3 s1 p1)
      have HB := Lib.hid (matchB_ok HE.out)
      clear hz hs hp
      have i1 : ¬ ((2000 : Int) < s.size) := by omega
      have i2 : ¬ ((100 : Int) < p.size) := by omega
      have i3 : decide ((100 : Int) < p.size) = false := by simpa using i2
      clear i2
      go_enter Try.func31, Try.ntmps31
      go_wp2_with (first
        | (go_at_call 32; refine (In_yes _ _ _ _ k1 k3).mono ?_; rintro e w' ⟨rfl, rfl⟩)
        | (go_at_call 51; refine (matched_any kind s p _ s1 p1 k1 k3).mono ?_; rintro e w1 ⟨rfl, hb1⟩))
      go_ret2
      exact ⟨by rw [HE.out, HB.out]; rfl, hb1⟩
end Go.Proofs.Ytdofgjpgppaghaa

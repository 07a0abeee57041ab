/- The cutter's span. -/
import Derived.Test.YtdofgjpgppaghaaTok0
import Derived.Deep.LoopGhost
namespace Go.Proofs.Ytdofgjpgppaghaa
open Go.RowKit
set_option linter.unusedSimpArgs false
set_option linter.unusedVariables false
/-- only block g was written, nothing was made -/
structure Only (g : Nat) (w w' : World) : Prop where
  by_ : w.grownBy w' (some g)
  size : w'.heap.size = w.heap.size
theorem Only.refl (g : Nat) (w : World) : Only g w w := ⟨World.grownBy.refl w _, rfl⟩
theorem Only.drewN {g : Nat} {a w : World} (h : Only g a w) (n : Nat) : Only g a (w.drewN n) := ⟨⟨h.by_.os, h.by_.tape, h.by_.output, h.by_.size, h.by_.block⟩, h.size⟩
theorem Only.setCell {g : Nat} {a w : World} (h : Only g a w) {p : Addr} (hp : p.block = g) (v : Value) : Only g a (w.setCell p v) :=
  ⟨⟨h.by_.os, h.by_.tape, h.by_.output, by simpa [World.setCell] using h.by_.size, fun i hi hne => (Below.heap_setCell w p v i (by rintro rfl; exact hne (by rw [hp]))).trans (h.by_.block i hi hne)⟩, by simpa using h.size⟩
theorem Only.trans {g : Nat} {a b c : World} (h : Only g a b) (k : Only g b c) : Only g a c :=
  ⟨⟨k.by_.os.trans h.by_.os, k.by_.tape.trans h.by_.tape, k.by_.output.trans h.by_.output, Nat.le_trans h.by_.size k.by_.size, fun i hi hne => (k.by_.block i (by rw [h.size]; exact hi) hne).trans (h.by_.block i hi hne)⟩, k.size.trans h.size⟩
theorem Only.below {g B : Nat} {w w' : World} (h : Only g w w') (hB : B ≤ g) (hg : B ≤ w.heap.size) : Below B w w' :=
  ⟨h.by_.os, h.by_.tape, h.by_.output, h.by_.size, fun k hk => h.by_.block k (by omega) (by simp; omega)⟩

/-- how many bytes from i on are so -/
def runN (p : UInt8 → Bool) (s : ByteArray) (i : Nat) : Nat := (((bs s).drop i).takeWhile p).length
theorem runN_le (p : UInt8 → Bool) (s : ByteArray) (i : Nat) : i ≤ s.size → i + runN p s i ≤ s.size := by
  intro h
  unfold runN
  have := (List.takeWhile_prefix p (l := (bs s).drop i)).length_le
  rw [List.length_drop, bs_len] at this
  omega
theorem runN_hit (p : UInt8 → Bool) (s : ByteArray) (i : Nat) (h : i < s.size) (hp : p s[i] = true) : runN p s i = runN p s (i + 1) + 1 := by
  have e : (bs s).drop i = s[i] :: (bs s).drop (i + 1) := by
    rw [List.drop_eq_getElem_cons (by rw [bs_len]; exact h)]
    congr 1
  unfold runN
  rw [e, List.takeWhile_cons, if_pos hp]
  rfl
theorem runN_miss (p : UInt8 → Bool) (s : ByteArray) (i : Nat) (h : i < s.size) (hp : p s[i] = false) : runN p s i = 0 := by
  have e : (bs s).drop i = s[i] :: (bs s).drop (i + 1) := by
    rw [List.drop_eq_getElem_cons (by rw [bs_len]; exact h)]
    congr 1
  unfold runN
  rw [e, List.takeWhile_cons, if_neg (by rw [hp]; decide)]
  rfl
theorem runN_end (p : UInt8 → Bool) (s : ByteArray) : runN p s s.size = 0 := by
  unfold runN
  rw [List.drop_eq_nil_of_le (by rw [bs_len]; exact Nat.le_refl _)]
  rfl

theorem cut_eq (s : ByteArray) (i n : Nat) : s.extract i (i + n) = mk (((bs s).drop i).take n) := by
  apply bs_inj
  rw [bs_mk]
  show (s.extract i (i + n)).data.toList = _
  rw [Lib.extract_data]
  show ((s.data.toList.drop i).take (i + n - i)) = _
  rw [Nat.add_sub_cancel_left]
  rfl

set_option maxRecDepth 20000 in
set_option maxHeartbeats 1000000 in
theorem span_word (g : Nat) (s : ByteArray) (i : Nat) (w : World) (h0 : w.cell? ⟨g, 0, none⟩ = some (.string s)) (h1 : w.cell? ⟨g, 1, none⟩ = some (.int .i64 i)) (hz : w.frozen? ⟨g, 1, none⟩ = false) (hs : s.size ≤ maxLen) (hi : i ≤ s.size) :
    Calls Try.prog 56 #[.pointer (some ⟨g, 0, none⟩), .func (.func 57) #[] #[]] w fun e w' =>
      e = .returned (.string (s.extract i (i + runN wordB s i))) ∧ Only g w w' ∧ w'.cell? ⟨g, 0, none⟩ = some (.string s) ∧ w'.cell? ⟨g, 1, none⟩ = some (.int .i64 (i + runN wordB s i : Nat)) ∧ w'.frozen? ⟨g, 1, none⟩ = false := by
  unfold maxLen at hs
  have HR := Lib.hid (runN_le wordB s i hi)
  go_enter Try.func56, Try.ntmps56
  go_wp2_with fail
  go_loopg [10] (s.size - i) (fun gk x wr => ∃ j : Nat, gk = s.size - j ∧ i ≤ j ∧ j ≤ s.size ∧ i + runN wordB s i = j + runN wordB s j ∧ Only g w wr ∧ wr.cell? ⟨g, 0, none⟩ = some (.string s) ∧ wr.cell? ⟨g, 1, none⟩ = some (.int .i64 j) ∧ wr.frozen? ⟨g, 1, none⟩ = false)
  case atStart => exact ⟨i, rfl, Nat.le_refl _, hi, rfl, Only.refl _ _, h0, h1, hz⟩
  case round =>
    obtain ⟨j, hgk, hij, hj, hn, ho, c0, c1, cz⟩ := hrel
    have HN := Lib.hid hn
    have HG := Lib.hid hgk
    clear hn hgk
    by_cases hlt : j < s.size
    · have i0 : (0 : Int) ≤ (j : Int) := by omega
      have i1 : (j : Int) < s.size := by omega
      have i2 : decide ((j : Int) < (s.size : Int)) = true := by simp; omega
      cases hp : wordB s[j]
      · have HP := Lib.hid hp
        have hc := fun wx => word1_any s[j] wx
        rw [hp] at hc
        have HC := Lib.hid hc
        clear hc hp
        have HE := Lib.hid (show i + runN wordB s i = j by rw [HN.out, runN_miss wordB s j hlt HP.out]; rfl)
        go_wp2_with fail
        go_quiet ((go_at_call 57; exact Calls.quiet_of_same (Calls.mono (HC.out _) (fun _ _ ⟨h1, h2⟩ => ⟨h1, h2.symm⟩))))
        go_wp2_with fail
        go_quiet (fail)
        go_wp2_with fail
        go_ret
        rw [HE.out]
        exact ⟨rfl, (ho.drewN _).drewN _, c0, c1, cz⟩
      · have HP := Lib.hid hp
        have hc := fun wx => word1_any s[j] wx
        rw [hp] at hc
        have HC := Lib.hid hc
        clear hc hp
        go_wp2_with fail
        go_quiet ((go_at_call 57; exact Calls.quiet_of_same (Calls.mono (HC.out _) (fun _ _ ⟨h1, h2⟩ => ⟨h1, h2.symm⟩))))
        go_wp2_with fail
        go_roundg (s.size - (j + 1))
        case measure => rw [HG.out]; omega
        case rel =>
          refine ⟨j + 1, rfl, by omega, by omega, by rw [HN.out, runN_hit wordB s j hlt HP.out]; omega, ?_, ?_, ?_, ?_⟩
          · exact (ho.drewN _).setCell rfl _
          · exact (World.cell?_setCell_other _ _ _ _ (by intro h; injection h with _ h2; cases h2)).trans c0
          · exact World.cell?_setCell_same _ _ _ c1
          · exact (World.frozen?_setCell _ _ _ _).trans cz
    · have i1 : (s.size : Int) ≤ j := by omega
      have i2 : decide ((j : Int) < (s.size : Int)) = false := by simp; omega
      have hjs : j = s.size := by omega
      have i3 : (j : Int) ≤ s.size := by omega
      have HE := Lib.hid (show i + runN wordB s i = j by rw [HN.out, hjs, runN_end]; rfl)
      clear hjs
      go_wp2_with fail
      go_quiet (fail)
      go_wp2_with fail
      go_quiet (fail)
      go_wp2_with fail
      go_ret
      rw [HE.out]
      exact ⟨rfl, (ho.drewN _).drewN _, c0, c1, cz⟩

set_option maxRecDepth 20000 in
theorem word_any (g : Nat) (s : ByteArray) (i : Nat) (w : World) (h0 : w.cell? ⟨g, 0, none⟩ = some (.string s)) (h1 : w.cell? ⟨g, 1, none⟩ = some (.int .i64 i)) (hz : w.frozen? ⟨g, 1, none⟩ = false) (hs : s.size ≤ maxLen) (hi : i ≤ s.size) :
    Calls Try.prog 44 #[.pointer (some ⟨g, 0, none⟩)] w fun e w' =>
      e = .returned (.string (s.extract i (i + runN wordB s i))) ∧ Only g w w' ∧ w'.cell? ⟨g, 0, none⟩ = some (.string s) ∧ w'.cell? ⟨g, 1, none⟩ = some (.int .i64 (i + runN wordB s i : Nat)) ∧ w'.frozen? ⟨g, 1, none⟩ = false := by
  have HW := Lib.hid (fun w1 (e : w = w1) => show Calls Try.prog _ _ w1 _ from e ▸ span_word g s i w h0 h1 hz hs hi)
  clear h0 h1 hz
  go_enter Try.func44, Try.ntmps44
  go_wp2_with fail
  refine Calls.mono (HW.out w rfl) ?_
  rintro e w1 ⟨rfl, k1, k2, k3, k4⟩
  have HK := Lib.hid (And.intro k1 (And.intro k2 (And.intro k3 k4)))
  clear k1 k2 k3 k4
  go_wp2_with fail
  go_ret
  exact ⟨rfl, HK.out⟩
end Go.Proofs.Ytdofgjpgppaghaa

/- Names of flags: P6.1. -/
import Derived.Test.YtdofgjpgppaghaaDoorStrIx
namespace Go.Proofs.YtdofgjpgppaghaaDoor
open Go.RowKit
set_option linter.unusedSimpArgs false
set_option linter.unusedVariables false
/-- the names, by their bits -/
def flagNames : List (List UInt8) := [[92, 83, 101, 101, 110], [92, 65, 110, 115, 119, 101, 114, 101, 100], [92, 70, 108, 97, 103, 103, 101, 100], [92, 68, 101, 108, 101, 116, 101, 100], [92, 68, 114, 97, 102, 116]]
/-- a name's place, or -1 -/
def flagIx (s : ByteArray) : Int := ixOf s (flagNames.map mk)
def flagBits (l : List ByteArray) : Nat := l.foldl (fun n s => n ||| 1 <<< (flagIx s).toNat) 0
def flagBitI (s : ByteArray) : Int := if flagIx s < 0 then 0 else ((2 ^ (flagIx s).toNat : Nat) : Int)
def flagsR (l : List ByteArray) : Int × Int := if l.all fun s => decide (0 ≤ flagIx s) then (flagBits l, 0) else (0, 7)
theorem flagIx_lt (s : ByteArray) : flagIx s < 5 := by
  unfold flagIx
  rcases ixOf_cases s (flagNames.map mk) with ⟨h1, _⟩ | ⟨j, h1, h2, _⟩
  · rw [h1]; decide
  · rw [h2]; have : (flagNames.map mk).length = 5 := rfl; omega
theorem mk_text (z : List UInt8) (s : ByteArray) : (mk z = s) ↔ s.toList = z := by
  constructor
  · rintro rfl; rw [ByteArray.toList_eq]; rfl
  · rintro rfl; rw [ByteArray.toList_eq]; exact mk_bs s
theorem flagBitI_eq (s : ByteArray) : flagBitI s = if (s.toList == [92, 83, 101, 101, 110]) = true then 1 else if (s.toList == [92, 65, 110, 115, 119, 101, 114, 101, 100]) = true then 2 else if (s.toList == [92, 70, 108, 97, 103, 103, 101, 100]) = true then 4
    else if (s.toList == [92, 68, 101, 108, 101, 116, 101, 100]) = true then 8 else if (s.toList == [92, 68, 114, 97, 102, 116]) = true then 16 else 0 := by
  have e : ∀ z : List UInt8, (s.toList == z) = decide (mk z = s) := fun z => by rw [Bool.eq_iff_iff]; simp [mk_text]
  simp only [e, decide_eq_true_eq]
  unfold flagBitI
  by_cases h1 : mk [92, 83, 101, 101, 110] = s
  · have : flagIx s = 0 := by unfold flagIx flagNames; exact if_pos h1
    rw [this, if_pos h1]; rfl
  by_cases h2 : mk [92, 65, 110, 115, 119, 101, 114, 101, 100] = s
  · have : flagIx s = 1 := by unfold flagIx flagNames; simp only [List.map_cons, List.map_nil, ixOf, if_neg h1, if_pos h2]; rfl
    rw [this, if_neg h1, if_pos h2]; rfl
  by_cases h3 : mk [92, 70, 108, 97, 103, 103, 101, 100] = s
  · have : flagIx s = 2 := by unfold flagIx flagNames; simp only [List.map_cons, List.map_nil, ixOf, if_neg h1, if_neg h2, if_pos h3]; rfl
    rw [this, if_neg h1, if_neg h2, if_pos h3]; rfl
  by_cases h4 : mk [92, 68, 101, 108, 101, 116, 101, 100] = s
  · have : flagIx s = 3 := by unfold flagIx flagNames; simp only [List.map_cons, List.map_nil, ixOf, if_neg h1, if_neg h2, if_neg h3, if_pos h4]; rfl
    rw [this, if_neg h1, if_neg h2, if_neg h3, if_pos h4]; rfl
  by_cases h5 : mk [92, 68, 114, 97, 102, 116] = s
  · have : flagIx s = 4 := by unfold flagIx flagNames; simp only [List.map_cons, List.map_nil, ixOf, if_neg h1, if_neg h2, if_neg h3, if_neg h4, if_pos h5]; rfl
    rw [this, if_neg h1, if_neg h2, if_neg h3, if_neg h4, if_pos h5]; rfl
  · have : flagIx s = -1 := by unfold flagIx flagNames; simp only [List.map_cons, List.map_nil, ixOf, if_neg h1, if_neg h2, if_neg h3, if_neg h4, if_neg h5]; rfl
    rw [this, if_neg h1, if_neg h2, if_neg h3, if_neg h4, if_neg h5]; rfl
theorem flagBit_any (s : ByteArray) (w : World) (hs : s.size ≤ maxLen) : Calls Tryd.prog 8 #[.string s] w fun e w' => e = .returned (.int .i64 (flagBitI s)) ∧ w = w' := by
  unfold maxLen at hs
  have HF := Lib.hid (flagBitI_eq s)
  go_enter Tryd.func8, Tryd.ntmps8
  go_wp2_with fail
  all_goals
    go_ret
    refine ⟨ret_int ?_, rfl⟩
    rw [HF.out]
    simp [*]
theorem or_bits : ∀ n : Nat, n < 32 → ∀ j : Nat, j < 5 → bits BinOp.or IntKind.i64 (n : Int) (wrap64 (2 ^ j)) = ((n ||| 1 <<< j : Nat) : Int) := by decide +kernel
theorem or_lt : ∀ n : Nat, n < 32 → ∀ j : Nat, j < 5 → n ||| 1 <<< j < 32 := by decide +kernel
theorem flagBits_lt (l : List ByteArray) : flagBits l < 32 := by
  suffices h : ∀ (l : List ByteArray) (n : Nat), n < 32 → l.foldl (fun n s => n ||| 1 <<< (flagIx s).toNat) n < 32 from h l 0 (by decide)
  intro l
  induction l with
  | nil => intro n hn; exact hn
  | cons s r ih =>
    intro n hn
    exact ih _ (or_lt n hn _ (by have := flagIx_lt s; omega))
theorem flagBits_snoc (l : List ByteArray) (s : ByteArray) : flagBits (l ++ [s]) = flagBits l ||| 1 <<< (flagIx s).toNat := by
  unfold flagBits
  rw [List.foldl_append]
  rfl
theorem flagBits_test (l : List ByteArray) (hg : ∀ s ∈ l, 0 ≤ flagIx s) (j : Nat) : (flagBits l).testBit j = l.any fun s => decide (flagIx s = j) := by
  suffices h : ∀ (l : List ByteArray) (n : Nat), (∀ s ∈ l, 0 ≤ flagIx s) → (l.foldl (fun n s => n ||| 1 <<< (flagIx s).toNat) n).testBit j = (n.testBit j || l.any fun s => decide (flagIx s = j)) by
    rw [flagBits, h l 0 hg]; simp
  intro l
  induction l with
  | nil => intro n _; simp
  | cons s r ih =>
    intro n hg
    rw [List.foldl_cons, ih _ (fun x hx => hg x (by simp [hx])), Nat.testBit_or, List.any_cons, Bool.or_assoc]
    congr 1
    congr 1
    rw [Nat.one_shiftLeft, Nat.testBit_two_pow]
    have := hg s (by simp)
    rw [decide_eq_decide]
    omega
theorem flagsR_ok {l : List ByteArray} (h : ∀ s ∈ l, 0 ≤ flagIx s) : flagsR l = (↑(flagBits l), 0) := if_pos (by simpa using h)
theorem flagsR_bad {l : List ByteArray} {k : Nat} {s : ByteArray} (hs : l[k]? = some s) (h : flagIx s < 0) : flagsR l = (0, 7) := if_neg (by
  simp only [List.all_eq_true, decide_eq_true_eq]
  intro h'
  have := h' s (List.mem_of_getElem? hs)
  omega)
theorem mem_take {l : List ByteArray} {k : Nat} {x : ByteArray} (hx : l[k]? = some x) : l.take (k + 1) = l.take k ++ [x] := by rw [List.take_add_one, hx]; rfl
theorem all_get {l : List ByteArray} {p : ByteArray → Prop} (h : ∀ (j : Nat) s, l[j]? = some s → p s) : ∀ s ∈ l, p s := fun s hs => by
  obtain ⟨j, hj, e⟩ := List.mem_iff_getElem.1 hs
  exact h j s (by rw [List.getElem?_eq_getElem hj, e])

set_option maxRecDepth 20000 in
theorem Flags_any (v : Value) (l : List ByteArray) (w : World) (h : RF strF w (· < w.heap.size) v l) (hg : TextsAt w 0 flagNames) (hz : 0 < w.heap.size) :
    Calls Tryd.prog 4 #[v] w fun e w' => e = .returned (.tuple #[.int .i64 (flagsR l).1, .int .i64 (flagsR l).2]) ∧ ∃ d, w' = w.drewN d := by
  obtain ⟨A, c, rfl, h⟩ := h.ex
  have hm := h.bound
  unfold maxLen at hm
  have H := Lib.hid h
  have HT := Lib.hid (fun d => RF.of_texts (w := w.drewN d) (fun i z hi => (hg i z hi : w.cell? _ = _)) hz 5 rfl (by decide))
  clear h hg
  go_enter Tryd.func4, Tryd.ntmps4
  go_wp2_with fail
  go_loopw [4, 10] (fun o i wr => ∃ k : Nat, k ≤ l.length ∧ i = .int .i64 k ∧ (∃ d, wr = w.drewN d) ∧ (∀ j s, j < k → l[j]? = some s → 0 ≤ flagIx s) ∧ o = .int .i64 (flagBits (l.take k))) (fun _ i _ => l.length - (intOf i).toNat)
  case atStart => exact ⟨0, Nat.zero_le _, rfl, ⟨0, rfl⟩, fun j s hj => by omega, rfl⟩
  case round =>
    obtain ⟨k, hk', rfl, ⟨d, rfl⟩, hgd, rfl⟩ := hrel
    have HG := Lib.hid hgd
    clear hgd
    by_cases hlt : k < l.length
    · obtain ⟨b, off, x, rfl, _, hx, hc⟩ := str_cell H.out hlt
      have HX := Lib.hid hx
      have HI := Lib.hid (fun wx hq => index_any (.slice (some ⟨0, 0, none⟩) 5 5) (flagNames.map mk) x wx hq)
      have hi5 := flagIx_lt x
      have HS := Lib.hid (flagBits_snoc (l.take k) x)
      have hn32 := flagBits_lt (l.take k)
      obtain ⟨q, hq⟩ : ∃ q, q = flagIx x := ⟨_, rfl⟩
      have hq' : ixOf x (flagNames.map mk) = q := hq.symm
      rw [hq'] at HI
      rw [← hq] at hi5
      have HQ := Lib.hid hq
      clear hx hq' hq
      generalize hn : flagBits (l.take k) = n at *
      by_cases hq0 : 0 ≤ q
      · have HO := Lib.hid (or_bits n hn32 q.toNat (by omega))
        clear hn
        go_wp2_with (go_at_call 7; refine (HI.out _ (HT.out _)).mono ?_; rintro e w' ⟨rfl, d', rfl⟩)
        go_roundw
        case rel =>
          refine ⟨k + 1, by omega, by go_num, ⟨_, rfl⟩, fun j s hj hs => ?_, ?_⟩
          · by_cases e : j = k
            · subst e
              rw [HX.out] at hs
              injection hs with hs
              subst hs
              rw [← HQ.out]
              exact hq0
            · exact HG.out j s (by omega) hs
          · rw [HO.out, mem_take HX.out, HS.out, HQ.out]
        case measure => simp [intOf]; omega
      · have hq1 : q < 0 := by omega
        have HF := Lib.hid (flagsR_bad HX.out (by rw [← HQ.out]; exact hq1))
        clear hq0 hn
        go_wp2_with (go_at_call 7; refine (HI.out _ (HT.out _)).mono ?_; rintro e w' ⟨rfl, d', rfl⟩)
        go_ret2
        exact ⟨by rw [HF.out]; rfl, _, rfl⟩
    · obtain rfl : k = l.length := by omega
      have HF := Lib.hid (flagsR_ok (l := l) (all_get fun j s hs => HG.out j s (List.getElem?_eq_some_iff.1 hs).1 hs))
      have HW := Lib.hid (List.take_length (l := l))
      generalize hn : flagBits (l.take l.length) = n at *
      have HN := Lib.hid hn
      clear hn
      go_wp2_with fail
      go_ret2
      refine ⟨?_, _, rfl⟩
      rw [HF.out, ← HN.out, HW.out]
      rfl
/-- 2 to the j -/
def pw (j : Nat) : Int := ((2 ^ j : Nat) : Int)
theorem pw_b : ∀ j : Nat, j < 6 → 1 ≤ pw j ∧ pw j ≤ 32 ∧ (pw j ≤ 16 ↔ j < 5) ∧ pw (j + 1) = pw j * 2 := by decide
theorem flagBitI_bad {s : ByteArray} (h : flagIx s < 0) : flagBitI s = 0 := if_pos h
theorem flagBitI_ok {s : ByteArray} (h : 0 ≤ flagIx s) : flagBitI s = pw (flagIx s).toNat := if_neg (by omega)
theorem pw_inj : ∀ a : Nat, a < 5 → ∀ b : Nat, b < 5 → a ≠ b → pw a ≠ pw b := by decide
/-- what stands behind the j-th round -/
def OutAt (l : List ByteArray) (j : Nat) (o : Nat) : Prop := o < 2 ^ j ∧ ((∀ s ∈ l, 0 ≤ flagIx s) → o = flagBits l % 2 ^ j)
theorem OutAt.bound {l : List ByteArray} {j o : Nat} (h : OutAt l j o) (hj : j ≤ 5) : (o : Int) < 32 := by
  have h1 := h.1
  have : 2 ^ j ≤ 2 ^ 5 := Nat.pow_le_pow_right (by decide) hj
  omega
theorem mod_succ (x j : Nat) : x % 2 ^ (j + 1) = x % 2 ^ j + 2 ^ j * (x.testBit j).toNat := by
  rw [Nat.pow_succ, Nat.mod_mul, Nat.testBit_eq_decide_div_mod_eq]
  congr 2
  have := Nat.mod_lt (x / 2 ^ j) (show 0 < 2 by decide)
  by_cases h : x / 2 ^ j % 2 = 1
  · rw [h]; rfl
  · have h0 : x / 2 ^ j % 2 = 0 := by omega
    rw [h0]; rfl
theorem OutAt.yes {l : List ByteArray} {j o k : Nat} {s : ByteArray} (h : OutAt l j o) (hs : l[k]? = some s) (hi : flagIx s = j) : OutAt l (j + 1) (o + 2 ^ j) := by
  refine ⟨by have := h.1; rw [Nat.pow_succ]; omega, fun hg => ?_⟩
  have ht : (flagBits l).testBit j = true := by
    rw [flagBits_test l hg, List.any_eq_true]
    exact ⟨s, List.mem_of_getElem? hs, by simp [hi]⟩
  rw [mod_succ, ht, ← h.2 hg]
  simp
theorem OutAt.no {l : List ByteArray} {j o : Nat} (h : OutAt l j o) (hn : ∀ (i : Nat) s, l[i]? = some s → flagIx s ≠ j) : OutAt l (j + 1) o := by
  refine ⟨by have := h.1; rw [Nat.pow_succ]; omega, fun hg => ?_⟩
  have ht : (flagBits l).testBit j = false := by
    rw [flagBits_test l hg, List.any_eq_false]
    intro s hs
    obtain ⟨i, hi, e⟩ := List.mem_iff_getElem.1 hs
    simpa using hn i s (by rw [List.getElem?_eq_getElem hi, e])
  rw [mod_succ, ht, ← h.2 hg]
  simp
theorem OutAt.last {l : List ByteArray} {o : Nat} (h : OutAt l 5 o) (hg : ∀ s ∈ l, 0 ≤ flagIx s) : o = flagBits l := by
  rw [h.2 hg]
  exact Nat.mod_eq_of_lt (flagBits_lt l)

set_option maxRecDepth 20000 in
theorem FlagsOf_any (v : Value) (l : List ByteArray) (w : World) (h : RF strF w (· < w.heap.size) v l) (hsz : ∀ s ∈ l, s.size ≤ maxLen) :
    Calls Tryd.prog 6 #[v] w fun e w' => e = .returned (.tuple #[.int .i64 (flagsR l).1, .int .i64 (flagsR l).2]) ∧ w' = w := by
  obtain ⟨A, c, rfl, h⟩ := h.ex
  have hm := h.bound
  unfold maxLen at hm
  have H := Lib.hid h
  have HZ := Lib.hid hsz
  clear h hsz
  go_enter Tryd.func6, Tryd.ntmps6
  go_wp2_with fail
  go_loop [4, 5] (fun o b => ∃ j n : Nat, j ≤ 5 ∧ OutAt l j n ∧ o = .int .i64 (n : Int) ∧ b = .int .i64 (pw j)) (fun _ b => (32 - (intOf b)).toNat)
  case atStart => exact ⟨0, 0, by decide, ⟨by decide, fun _ => by simp [Nat.mod_one]⟩, rfl, rfl⟩
  case round =>
    obtain ⟨j, n, hj, ho, rfl, rfl⟩ := hrel
    have HO := Lib.hid ho
    have hn32 := ho.bound hj
    clear ho
    obtain ⟨b1, b2, b3, b4⟩ := pw_b j (by omega)
    by_cases hj5 : j < 5
    · have b5 := b3.2 hj5
      have HB := Lib.hid b4
      have HP := Lib.hid (show pw j = ((2 ^ j : Nat) : Int) from rfl)
      have HI := Lib.hid (pw_inj)
      clear b3 b4
      have HPE : Hid (∃ p, p = pw j) := Lib.hid ⟨_, rfl⟩
      generalize hp : pw j = p at *
      have HPJ := Lib.hid hp
      clear hp
      go_wp2_with fail
      go_loop [4, 6] (fun o i => ∃ k : Nat, k ≤ l.length ∧ o = .int .i64 (n : Int) ∧ i = .int .i64 k ∧ ∀ (m : Nat) s, m < k → l[m]? = some s → flagIx s ≠ j) (fun _ i => l.length - (intOf i).toNat)
      case atStart => exact ⟨0, Nat.zero_le _, rfl, rfl, fun m s hm => by omega⟩
      case round =>
        obtain ⟨k, hk', rfl, rfl, hne⟩ := hrel
        have HN := Lib.hid hne
        clear hne
        by_cases hlt : k < l.length
        · obtain ⟨b, off, x, rfl, _, hx, hc⟩ := str_cell H.out hlt
          have HX := Lib.hid hx
          have HC := Lib.hid (fun wx => flagBit_any x wx (HZ.out x (List.mem_of_getElem? hx)))
          clear hx
          by_cases hq : flagIx x < 0
          · rw [flagBitI_bad hq] at HC
            have HF := Lib.hid (flagsR_bad HX.out hq)
            clear hq
            go_wp2_with (go_at_call 8; refine (HC.out _).mono ?_; rintro e w' ⟨rfl, rfl⟩)
            go_ret2
            exact ⟨by rw [HF.out]; rfl, rfl⟩
          · have hq' : 0 ≤ flagIx x := by omega
            have hq5 := flagIx_lt x
            rw [flagBitI_ok hq'] at HC
            have p1 := (pw_b (flagIx x).toNat (by omega)).1
            by_cases he : flagIx x = j
            · have e1 : pw (flagIx x).toNat = p := by rw [he, Int.toNat_natCast, HPJ.out]
              rw [e1] at HC
              have HE := Lib.hid he
              have i1 : (p == 0) = false := beq_false_of_ne (by omega)
              clear he hq hq' hq5 p1 e1
              go_wp2_with (go_at_call 8; refine (HC.out _).mono ?_; rintro e w' ⟨rfl, rfl⟩)
              go_round
              case rel =>
                refine ⟨j + 1, n + 2 ^ j, by omega, HO.out.yes HX.out HE.out, ?_, ?_⟩
                · rw [HP.out]; go_num
                · rw [HB.out]
              case measure => simp [intOf]; omega
            · have e1 : pw (flagIx x).toNat ≠ p := by
                rw [← HPJ.out]
                exact HI.out _ (by omega) _ hj5 (by omega)
              generalize pw (flagIx x).toNat = r at *
              have HE := Lib.hid he
              have i1 : (r == 0) = false := beq_false_of_ne (by omega)
              have i2 : (r == p) = false := beq_false_of_ne e1
              clear he hq hq' hq5 p1 e1
              go_wp2_with (go_at_call 8; refine (HC.out _).mono ?_; rintro e w' ⟨rfl, rfl⟩)
              go_round
              case rel =>
                refine ⟨k + 1, by omega, rfl, by go_num, fun m s hm hs => ?_⟩
                by_cases e : m = k
                · subst e
                  rw [HX.out] at hs
                  injection hs with hs
                  subst hs
                  exact HE.out
                · exact HN.out m s (by omega) hs
              case measure => simp [intOf]; omega
        · obtain rfl : k = l.length := by omega
          go_wp2_with fail
          go_round
          case rel => exact ⟨j + 1, n, by omega, HO.out.no fun i s hs => HN.out i s (List.getElem?_eq_some_iff.1 hs).1 hs, rfl, by rw [HB.out]⟩
          case measure => simp [intOf]; omega
    · obtain rfl : j = 5 := by omega
      have b5 : 16 < pw 5 := by decide
      clear b1 b2 b3 b4
      generalize pw 5 = p at *
      go_wp2_with fail
      go_loop [7] (fun i => ∃ k : Nat, k ≤ l.length ∧ i = .int .i64 k ∧ ∀ m s, m < k → l[m]? = some s → 0 ≤ flagIx s) (fun i => l.length - (intOf i).toNat)
      case atStart => exact ⟨0, Nat.zero_le _, rfl, fun m s hm => by omega⟩
      case round =>
        obtain ⟨k, hk', rfl, hne⟩ := hrel
        have HN := Lib.hid hne
        clear hne
        by_cases hlt : k < l.length
        · obtain ⟨b, off, x, rfl, _, hx, hc⟩ := str_cell H.out hlt
          have HX := Lib.hid hx
          have HC := Lib.hid (fun wx => flagBit_any x wx (HZ.out x (List.mem_of_getElem? hx)))
          clear hx
          by_cases hq : flagIx x < 0
          · rw [flagBitI_bad hq] at HC
            have HF := Lib.hid (flagsR_bad HX.out hq)
            clear hq
            go_wp2_with (go_at_call 8; refine (HC.out _).mono ?_; rintro e w' ⟨rfl, rfl⟩)
            go_ret2
            exact ⟨by rw [HF.out]; rfl, rfl⟩
          · have hq' : 0 ≤ flagIx x := by omega
            have hq5 := flagIx_lt x
            rw [flagBitI_ok hq'] at HC
            have p1 := (pw_b (flagIx x).toNat (by omega)).1
            generalize pw (flagIx x).toNat = r at *
            have HE := Lib.hid hq'
            have i1 : (r == 0) = false := beq_false_of_ne (by omega)
            clear hq hq' hq5 p1
            go_wp2_with (go_at_call 8; refine (HC.out _).mono ?_; rintro e w' ⟨rfl, rfl⟩)
            go_round
            case rel =>
              refine ⟨k + 1, by omega, by go_num, fun m s hm hs => ?_⟩
              by_cases e : m = k
              · subst e
                rw [HX.out] at hs
                injection hs with hs
                subst hs
                exact HE.out
              · exact HN.out m s (by omega) hs
            case measure => simp [intOf]; omega
        · obtain rfl : k = l.length := by omega
          have hall : ∀ s ∈ l, 0 ≤ flagIx s := all_get fun j s hs => HN.out j s (List.getElem?_eq_some_iff.1 hs).1 hs
          have HF := Lib.hid (flagsR_ok hall)
          have HL := Lib.hid (HO.out.last hall)
          clear hall
          go_wp2_with fail
          go_ret2
          refine ⟨?_, rfl⟩
          rw [HF.out, ← HL.out]
          rfl
end Go.Proofs.YtdofgjpgppaghaaDoor

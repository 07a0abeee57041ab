/- Addresses: P3.2, P3.3. -/
import Derived.Test.YtddiolgeaefieaaDoorWho2
namespace Go.Proofs.YtddiolgeaefieaaDoor
open Go.RowKit
set_option linter.unusedSimpArgs false
set_option linter.unusedVariables false
structure Adr where
  l : ByteArray
  d : ByteArray
def Adr.val (a : Adr) : Value := .agg #[.string a.l, .string a.d]
def addrE (a : Adr) : Int := if dottedB a.l = false ∨ dottedB a.d = false then 3 else if 99 < a.l.size + a.d.size then 1 else 0
structure AdrOk (a : Adr) : Prop where
  hl : a.l.size ≤ 1048576
  hd : a.d.size ≤ 1048576
theorem addrE_l {a : Adr} (h : dottedB a.l = false) : addrE a = 3 := if_pos (.inl h)
theorem addrE_d {a : Adr} (h : dottedB a.d = false) : addrE a = 3 := if_pos (.inr h)
theorem addrE_big {a : Adr} (h1 : dottedB a.l = true) (h2 : dottedB a.d = true) (h : 99 < a.l.size + a.d.size) : addrE a = 1 := by unfold addrE; rw [if_neg (by rw [h1, h2]; decide), if_pos h]
theorem addrE_ok {a : Adr} (h1 : dottedB a.l = true) (h2 : dottedB a.d = true) (h : ¬ 99 < a.l.size + a.d.size) : addrE a = 0 := by unfold addrE; rw [if_neg (by rw [h1, h2]; decide), if_neg h]
set_option maxRecDepth 20000 in
theorem whoCheck_any (a : Adr) (w : World) (hz : a.l.size ≤ 1048576 ∧ a.d.size ≤ 1048576) (h0 : Lib0 w) : Calls Tryd.prog 15 #[a.val] w fun e w' => e = .returned (.int .i64 (addrE a)) ∧ Below w.heap.size w w' := by
  have m1 := hz.1
  have m2 := hz.2
  clear hz
  have H0 := Lib.hid h0
  clear h0
  have tok : True := trivial
  cases h1 : dottedB a.l
  · have HF := Lib.hid (addrE_l h1)
    have H1 := Lib.hid h1
    clear h1
    obtain ⟨l, d⟩ := a
    unfold Adr.val
    dsimp only at *
    go_enter Tryd.func15, Tryd.ntmps15
    go_wp2_with (first | (go_at_call 46; clear tok; refine (dotted_any l _ ?_ ?_).mono ?_; omega; exact Lib0.below H0.out (Below.alloc (Below.refl _ _) (Nat.le_refl _) _); rintro e w1 ⟨rfl, hb1⟩; rw [H1.out]; obtain ⟨k1a, k1b, k1c⟩ := own_at hb1 (b := w.heap.size) (by first | omega | (simp; done) | (simp; omega)); have z2 := hb1.size; (try simp only [World.size_alloc, World.size_setCell] at z2)))
    go_ret
    refine ⟨by rw [HF.out]; rfl, ?_⟩
    (repeat (first | with_reducible exact hb1 | with_reducible refine Below.trans ?_ (Below.mono hb1 ?_) | with_reducible exact Below.refl _ _ | with_reducible refine Below.setCell ?_ ?_ _ | with_reducible refine Below.alloc ?_ ?_ _ | with_reducible refine Below.drew ?_ | with_reducible refine below_drewN ?_ _))
    all_goals (first | omega | (simp; done) | (simp; omega))

  cases h2 : dottedB a.d
  · have HF := Lib.hid (addrE_d h2)
    have H1 := Lib.hid h1
    have H2 := Lib.hid h2
    clear h1 h2
    obtain ⟨l, d⟩ := a
    unfold Adr.val
    dsimp only at *
    go_enter Tryd.func15, Tryd.ntmps15
    go_wp2_with (first | (go_at_call 46; clear tok; refine (dotted_any l _ ?_ ?_).mono ?_; omega; exact Lib0.below H0.out (Below.alloc (Below.refl _ _) (Nat.le_refl _) _); rintro e w1 ⟨rfl, hb1⟩; rw [H1.out]; obtain ⟨k3a, k3b, k3c⟩ := own_at hb1 (b := w.heap.size) (by first | omega | (simp; done) | (simp; omega)); have z4 := hb1.size; (try simp only [World.size_alloc, World.size_setCell] at z4)) | (go_at_call 46; refine (dotted_any d _ ?_ ?_).mono ?_; omega; exact Lib0.below (Lib0.below H0.out (Below.alloc (Below.refl _ _) (Nat.le_refl _) _)) hb1; rintro e w2 ⟨rfl, hb2⟩; rw [H2.out]; obtain ⟨k5a, k5b, k5c⟩ := own_at hb2 (b := w.heap.size) (by first | omega | (simp; done) | (simp; omega)); have z6 := hb2.size; (try simp only [World.size_alloc, World.size_setCell] at z6)))
    go_ret
    refine ⟨by rw [HF.out]; rfl, ?_⟩
    (repeat (first | with_reducible exact hb2 | with_reducible refine Below.trans ?_ (Below.mono hb2 ?_) | with_reducible exact hb1 | with_reducible refine Below.trans ?_ (Below.mono hb1 ?_) | with_reducible exact Below.refl _ _ | with_reducible refine Below.setCell ?_ ?_ _ | with_reducible refine Below.alloc ?_ ?_ _ | with_reducible refine Below.drew ?_ | with_reducible refine below_drewN ?_ _))
    all_goals (first | omega | (simp; done) | (simp; omega))

  by_cases h3 : 99 < a.l.size + a.d.size
  · have HF := Lib.hid (addrE_big h1 h2 h3)
    have H1 := Lib.hid h1
    have H2 := Lib.hid h2
    clear h1 h2
    obtain ⟨l, d⟩ := a
    unfold Adr.val
    dsimp only at *
    have i1 : (100 : Int) < (l.size : Int) + 1 + d.size := by omega
    go_enter Tryd.func15, Tryd.ntmps15
    go_wp2_with (first | (go_at_call 46; clear tok; refine (dotted_any l _ ?_ ?_).mono ?_; omega; exact Lib0.below H0.out (Below.alloc (Below.refl _ _) (Nat.le_refl _) _); rintro e w1 ⟨rfl, hb1⟩; rw [H1.out]; obtain ⟨k7a, k7b, k7c⟩ := own_at hb1 (b := w.heap.size) (by first | omega | (simp; done) | (simp; omega)); have z8 := hb1.size; (try simp only [World.size_alloc, World.size_setCell] at z8)) | (go_at_call 46; refine (dotted_any d _ ?_ ?_).mono ?_; omega; exact Lib0.below (Lib0.below H0.out (Below.alloc (Below.refl _ _) (Nat.le_refl _) _)) hb1; rintro e w2 ⟨rfl, hb2⟩; rw [H2.out]; obtain ⟨k9a, k9b, k9c⟩ := own_at hb2 (b := w.heap.size) (by first | omega | (simp; done) | (simp; omega)); have z10 := hb2.size; (try simp only [World.size_alloc, World.size_setCell] at z10)))
    go_ret
    refine ⟨by rw [HF.out]; rfl, ?_⟩
    (repeat (first | with_reducible exact hb2 | with_reducible refine Below.trans ?_ (Below.mono hb2 ?_) | with_reducible exact hb1 | with_reducible refine Below.trans ?_ (Below.mono hb1 ?_) | with_reducible exact Below.refl _ _ | with_reducible refine Below.setCell ?_ ?_ _ | with_reducible refine Below.alloc ?_ ?_ _ | with_reducible refine Below.drew ?_ | with_reducible refine below_drewN ?_ _))
    all_goals (first | omega | (simp; done) | (simp; omega))

  · have HF := Lib.hid (addrE_ok h1 h2 h3)
    have H1 := Lib.hid h1
    have H2 := Lib.hid h2
    clear h1 h2
    obtain ⟨l, d⟩ := a
    unfold Adr.val
    dsimp only at *
    have i1 : ¬ ((100 : Int) < (l.size : Int) + 1 + d.size) := by omega
    clear h3
    go_enter Tryd.func15, Tryd.ntmps15
    go_wp2_with (first | (go_at_call 46; clear tok; refine (dotted_any l _ ?_ ?_).mono ?_; omega; exact Lib0.below H0.out (Below.alloc (Below.refl _ _) (Nat.le_refl _) _); rintro e w1 ⟨rfl, hb1⟩; rw [H1.out]; obtain ⟨k11a, k11b, k11c⟩ := own_at hb1 (b := w.heap.size) (by first | omega | (simp; done) | (simp; omega)); have z12 := hb1.size; (try simp only [World.size_alloc, World.size_setCell] at z12)) | (go_at_call 46; refine (dotted_any d _ ?_ ?_).mono ?_; omega; exact Lib0.below (Lib0.below H0.out (Below.alloc (Below.refl _ _) (Nat.le_refl _) _)) hb1; rintro e w2 ⟨rfl, hb2⟩; rw [H2.out]; obtain ⟨k13a, k13b, k13c⟩ := own_at hb2 (b := w.heap.size) (by first | omega | (simp; done) | (simp; omega)); have z14 := hb2.size; (try simp only [World.size_alloc, World.size_setCell] at z14)))
    go_ret
    refine ⟨by rw [HF.out]; rfl, ?_⟩
    (repeat (first | with_reducible exact hb2 | with_reducible refine Below.trans ?_ (Below.mono hb2 ?_) | with_reducible exact hb1 | with_reducible refine Below.trans ?_ (Below.mono hb1 ?_) | with_reducible exact Below.refl _ _ | with_reducible refine Below.setCell ?_ ?_ _ | with_reducible refine Below.alloc ?_ ?_ _ | with_reducible refine Below.drew ?_ | with_reducible refine below_drewN ?_ _))
    all_goals (first | omega | (simp; done) | (simp; omega))

set_option maxRecDepth 20000 in
theorem addrFault_any (a : Adr) (w : World) (hz : a.l.size ≤ 1048576 ∧ a.d.size ≤ 1048576) : Calls Tryd.prog 16 #[a.val] w fun e w' => e = .returned (.int .i64 (addrE a)) ∧ Below w.heap.size w w' := by
  have m1 := hz.1
  have m2 := hz.2
  clear hz
  have tok : True := trivial
  cases h1 : dottedB a.l
  · have HF := Lib.hid (addrE_l h1)
    have H1 := Lib.hid h1
    clear h1
    obtain ⟨l, d⟩ := a
    unfold Adr.val
    dsimp only at *
    go_enter Tryd.func16, Tryd.ntmps16
    go_wp2_with (first | (go_at_call 47; clear tok; refine (dottedMay_any l _ ?_).mono ?_; (unfold maxLen; omega); rintro e w1 ⟨rfl, hb1⟩; rw [H1.out]; obtain ⟨k15a, k15b, k15c⟩ := own_at hb1 (b := w.heap.size) (by first | omega | (simp; done) | (simp; omega)); have z16 := hb1.size; (try simp only [World.size_alloc, World.size_setCell] at z16)))
    go_ret
    refine ⟨by rw [HF.out]; rfl, ?_⟩
    (repeat (first | with_reducible exact hb1 | with_reducible refine Below.trans ?_ (Below.mono hb1 ?_) | with_reducible exact Below.refl _ _ | with_reducible refine Below.setCell ?_ ?_ _ | with_reducible refine Below.alloc ?_ ?_ _ | with_reducible refine Below.drew ?_ | with_reducible refine below_drewN ?_ _))
    all_goals (first | omega | (simp; done) | (simp; omega))

  cases h2 : dottedB a.d
  · have HF := Lib.hid (addrE_d h2)
    have H1 := Lib.hid h1
    have H2 := Lib.hid h2
    clear h1 h2
    obtain ⟨l, d⟩ := a
    unfold Adr.val
    dsimp only at *
    go_enter Tryd.func16, Tryd.ntmps16
    go_wp2_with (first | (go_at_call 47; clear tok; refine (dottedMay_any l _ ?_).mono ?_; (unfold maxLen; omega); rintro e w1 ⟨rfl, hb1⟩; rw [H1.out]; obtain ⟨k17a, k17b, k17c⟩ := own_at hb1 (b := w.heap.size) (by first | omega | (simp; done) | (simp; omega)); have z18 := hb1.size; (try simp only [World.size_alloc, World.size_setCell] at z18)) | (go_at_call 47; refine (dottedMay_any d _ ?_).mono ?_; (unfold maxLen; omega); rintro e w2 ⟨rfl, hb2⟩; rw [H2.out]; obtain ⟨k19a, k19b, k19c⟩ := own_at hb2 (b := w.heap.size) (by first | omega | (simp; done) | (simp; omega)); have z20 := hb2.size; (try simp only [World.size_alloc, World.size_setCell] at z20)))
    go_ret
    refine ⟨by rw [HF.out]; rfl, ?_⟩
    (repeat (first | with_reducible exact hb2 | with_reducible refine Below.trans ?_ (Below.mono hb2 ?_) | with_reducible exact hb1 | with_reducible refine Below.trans ?_ (Below.mono hb1 ?_) | with_reducible exact Below.refl _ _ | with_reducible refine Below.setCell ?_ ?_ _ | with_reducible refine Below.alloc ?_ ?_ _ | with_reducible refine Below.drew ?_ | with_reducible refine below_drewN ?_ _))
    all_goals (first | omega | (simp; done) | (simp; omega))

  by_cases h3 : 99 < a.l.size + a.d.size
  · have HF := Lib.hid (addrE_big h1 h2 h3)
    have H1 := Lib.hid h1
    have H2 := Lib.hid h2
    clear h1 h2
    obtain ⟨l, d⟩ := a
    unfold Adr.val
    dsimp only at *
    have i1 : (99 : Int) < (l.size : Int) + d.size := by omega
    go_enter Tryd.func16, Tryd.ntmps16
    go_wp2_with (first | (go_at_call 47; clear tok; refine (dottedMay_any l _ ?_).mono ?_; (unfold maxLen; omega); rintro e w1 ⟨rfl, hb1⟩; rw [H1.out]; obtain ⟨k21a, k21b, k21c⟩ := own_at hb1 (b := w.heap.size) (by first | omega | (simp; done) | (simp; omega)); have z22 := hb1.size; (try simp only [World.size_alloc, World.size_setCell] at z22)) | (go_at_call 47; refine (dottedMay_any d _ ?_).mono ?_; (unfold maxLen; omega); rintro e w2 ⟨rfl, hb2⟩; rw [H2.out]; obtain ⟨k23a, k23b, k23c⟩ := own_at hb2 (b := w.heap.size) (by first | omega | (simp; done) | (simp; omega)); have z24 := hb2.size; (try simp only [World.size_alloc, World.size_setCell] at z24)))
    go_ret
    refine ⟨by rw [HF.out]; rfl, ?_⟩
    (repeat (first | with_reducible exact hb2 | with_reducible refine Below.trans ?_ (Below.mono hb2 ?_) | with_reducible exact hb1 | with_reducible refine Below.trans ?_ (Below.mono hb1 ?_) | with_reducible exact Below.refl _ _ | with_reducible refine Below.setCell ?_ ?_ _ | with_reducible refine Below.alloc ?_ ?_ _ | with_reducible refine Below.drew ?_ | with_reducible refine below_drewN ?_ _))
    all_goals (first | omega | (simp; done) | (simp; omega))

  · have HF := Lib.hid (addrE_ok h1 h2 h3)
    have H1 := Lib.hid h1
    have H2 := Lib.hid h2
    clear h1 h2
    obtain ⟨l, d⟩ := a
    unfold Adr.val
    dsimp only at *
    have i1 : ¬ ((99 : Int) < (l.size : Int) + d.size) := by omega
    clear h3
    go_enter Tryd.func16, Tryd.ntmps16
    go_wp2_with (first | (go_at_call 47; clear tok; refine (dottedMay_any l _ ?_).mono ?_; (unfold maxLen; omega); rintro e w1 ⟨rfl, hb1⟩; rw [H1.out]; obtain ⟨k25a, k25b, k25c⟩ := own_at hb1 (b := w.heap.size) (by first | omega | (simp; done) | (simp; omega)); have z26 := hb1.size; (try simp only [World.size_alloc, World.size_setCell] at z26)) | (go_at_call 47; refine (dottedMay_any d _ ?_).mono ?_; (unfold maxLen; omega); rintro e w2 ⟨rfl, hb2⟩; rw [H2.out]; obtain ⟨k27a, k27b, k27c⟩ := own_at hb2 (b := w.heap.size) (by first | omega | (simp; done) | (simp; omega)); have z28 := hb2.size; (try simp only [World.size_alloc, World.size_setCell] at z28)))
    go_ret
    refine ⟨by rw [HF.out]; rfl, ?_⟩
    (repeat (first | with_reducible exact hb2 | with_reducible refine Below.trans ?_ (Below.mono hb2 ?_) | with_reducible exact hb1 | with_reducible refine Below.trans ?_ (Below.mono hb1 ?_) | with_reducible exact Below.refl _ _ | with_reducible refine Below.setCell ?_ ?_ _ | with_reducible refine Below.alloc ?_ ?_ _ | with_reducible refine Below.drew ?_ | with_reducible refine below_drewN ?_ _))
    all_goals (first | omega | (simp; done) | (simp; omega))

/-- P3.3 -/
def atL : ByteArray := ⟨#[64]⟩
def partB (kind : Int) (a : Adr) : ByteArray := if kind = 2 then a.l else if kind = 3 then a.d else a.l ++ atL ++ a.d
def partR (kind : Int) (a : Adr) : ByteArray × Int := if addrE a ≠ 0 then (ByteArray.empty, addrE a) else if kind < 1 ∨ 3 < kind then (ByteArray.empty, 2) else (partB kind a, 0)
theorem partR_bad {kind : Int} {a : Adr} (h : addrE a ≠ 0) : partR kind a = (ByteArray.empty, addrE a) := if_pos h
theorem partR_kind {kind : Int} {a : Adr} (h : addrE a = 0) (hk : kind < 1 ∨ 3 < kind) : partR kind a = (ByteArray.empty, 2) := by unfold partR; rw [if_neg (by rw [h]; decide), if_pos hk]
theorem partR_ok {kind : Int} {a : Adr} (h : addrE a = 0) (hk : ¬ (kind < 1 ∨ 3 < kind)) : partR kind a = (partB kind a, 0) := by unfold partR; rw [if_neg (by rw [h]; decide), if_neg hk]
theorem addrE_cases (a : Adr) : addrE a = 0 ∨ addrE a = 1 ∨ addrE a = 3 := by
  unfold addrE
  split
  · exact .inr (.inr rfl)
  · split
    · exact .inr (.inl rfl)
    · exact .inl rfl
set_option maxRecDepth 20000 in
theorem Part_any (kind : Int) (a : Adr) (w : World) (hz : a.l.size ≤ 1048576 ∧ a.d.size ≤ 1048576) (h0 : Lib0 w) :
    Calls Tryd.prog 17 #[.int .i64 kind, a.val] w fun e w' => e = .returned (.tuple #[.string (partR kind a).1, .int .i64 (partR kind a).2]) ∧ Below w.heap.size w w' := by
  have HC := Lib.hid (fun wx h => whoCheck_any a wx hz h)
  have H0 := Lib.hid h0
  clear h0
  rcases addrE_cases a with he | he | he
  · rw [he] at HC
    by_cases hk : kind < 1 ∨ 3 < kind
    · have HF := Lib.hid (partR_kind he hk)
      clear he hz
      obtain ⟨l, d⟩ := a
      unfold Adr.val at *
      dsimp only at *
      rcases hk with hk | hk
      all_goals
        have j1 : (kind == 1) = false := beq_false_of_ne (by omega)
        have j2 : (kind == 2) = false := beq_false_of_ne (by omega)
        have j3 : (kind == 3) = false := beq_false_of_ne (by omega)
        go_enter Tryd.func17, Tryd.ntmps17
        go_wp2_with fail
        refine (HC.out _ ?_).mono ?_
        · exact Lib0.below H0.out (Below.alloc (Below.refl _ _) (Nat.le_refl _) _)
        rintro e w1 ⟨rfl, hb1⟩
        obtain ⟨k29a, k29b, k29c⟩ := own_at hb1 (b := w.heap.size) (by first | omega | (simp; done) | (simp; omega)); have z30 := hb1.size; (try simp only [World.size_alloc, World.size_setCell] at z30)
        go_wp2_with fail
        go_ret2
        refine ⟨by rw [HF.out]; rfl, ?_⟩
        (repeat (first | with_reducible exact hb1 | with_reducible refine Below.trans ?_ (Below.mono hb1 ?_) | with_reducible exact Below.refl _ _ | with_reducible refine Below.setCell ?_ ?_ _ | with_reducible refine Below.alloc ?_ ?_ _ | with_reducible refine Below.drew ?_ | with_reducible refine below_drewN ?_ _))
        all_goals (first | omega | (simp; done) | (simp; omega))
    · have HF := Lib.hid (partR_ok he hk)
      have hk' : kind = 1 ∨ kind = 2 ∨ kind = 3 := by omega
      clear he hk
      obtain ⟨l, d⟩ := a
      unfold Adr.val at *
      obtain ⟨z1, z2⟩ := hz
      dsimp only at *
      rcases hk' with rfl | rfl | rfl
      all_goals
        go_enter Tryd.func17, Tryd.ntmps17
        go_wp2_with fail
        refine (HC.out _ ?_).mono ?_
        · exact Lib0.below H0.out (Below.alloc (Below.refl _ _) (Nat.le_refl _) _)
        rintro e w1 ⟨rfl, hb1⟩
        obtain ⟨k31a, k31b, k31c⟩ := own_at hb1 (b := w.heap.size) (by first | omega | (simp; done) | (simp; omega)); have z32 := hb1.size; (try simp only [World.size_alloc, World.size_setCell] at z32)
        go_wp2_with fail
        go_ret2
        refine ⟨by rw [HF.out]; rfl, ?_⟩
        (repeat (first | with_reducible exact hb1 | with_reducible refine Below.trans ?_ (Below.mono hb1 ?_) | with_reducible exact Below.refl _ _ | with_reducible refine Below.setCell ?_ ?_ _ | with_reducible refine Below.alloc ?_ ?_ _ | with_reducible refine Below.drew ?_ | with_reducible refine below_drewN ?_ _))
        all_goals (first | omega | (simp; done) | (simp; omega))
  all_goals
    rw [he] at HC
    have HF := Lib.hid (partR_bad (kind := kind) (a := a) (by rw [he]; decide))
    rw [he] at HF
    clear he hz
    obtain ⟨l, d⟩ := a
    unfold Adr.val at *
    dsimp only at *
    go_enter Tryd.func17, Tryd.ntmps17
    go_wp2_with fail
    refine (HC.out _ ?_).mono ?_
    · exact Lib0.below H0.out (Below.alloc (Below.refl _ _) (Nat.le_refl _) _)
    rintro e w1 ⟨rfl, hb1⟩
    obtain ⟨k33a, k33b, k33c⟩ := own_at hb1 (b := w.heap.size) (by first | omega | (simp; done) | (simp; omega)); have z34 := hb1.size; (try simp only [World.size_alloc, World.size_setCell] at z34)
    go_wp2_with fail
    go_ret2
    refine ⟨by rw [HF.out]; rfl, ?_⟩
    (repeat (first | with_reducible exact hb1 | with_reducible refine Below.trans ?_ (Below.mono hb1 ?_) | with_reducible exact Below.refl _ _ | with_reducible refine Below.setCell ?_ ?_ _ | with_reducible refine Below.alloc ?_ ?_ _ | with_reducible refine Below.drew ?_ | with_reducible refine below_drewN ?_ _))
    all_goals (first | omega | (simp; done) | (simp; omega))
set_option maxRecDepth 20000 in
theorem partOf_any (kind : Int) (a : Adr) (w : World) (hz : a.l.size ≤ 1048576 ∧ a.d.size ≤ 1048576) (hk : kind = 1 ∨ kind = 2 ∨ kind = 3) :
    Calls Tryd.prog 49 #[.int .i64 kind, a.val] w fun e w' => e = .returned (.string (partB kind a)) ∧ Below w.heap.size w w' := by
  obtain ⟨l, d⟩ := a
  unfold Adr.val
  obtain ⟨z1, z2⟩ := hz
  dsimp only at *
  rcases hk with rfl | rfl | rfl
  all_goals
    go_enter Tryd.func49, Tryd.ntmps49
    go_wp2_with fail
    go_ret
    refine ⟨rfl, ?_⟩
    (repeat (first | with_reducible exact Below.refl _ _ | with_reducible refine Below.setCell ?_ ?_ _ | with_reducible refine Below.alloc ?_ ?_ _ | with_reducible refine Below.drew ?_ | with_reducible refine below_drewN ?_ _))
    all_goals (first | omega | (simp; done) | (simp; omega))
set_option maxRecDepth 20000 in
theorem PartOf_any (kind : Int) (a : Adr) (w : World) (hz : a.l.size ≤ 1048576 ∧ a.d.size ≤ 1048576) :
    Calls Tryd.prog 18 #[.int .i64 kind, a.val] w fun e w' => e = .returned (.tuple #[.string (partR kind a).1, .int .i64 (partR kind a).2]) ∧ Below w.heap.size w w' := by
  have HC := Lib.hid (fun wx => addrFault_any a wx hz)
  rcases addrE_cases a with he | he | he
  · rw [he] at HC
    by_cases hk : kind < 1 ∨ 3 < kind
    · have HF := Lib.hid (partR_kind he hk)
      clear he hz
      obtain ⟨l, d⟩ := a
      unfold Adr.val at *
      dsimp only at *
      go_enter Tryd.func18, Tryd.ntmps18
      go_wp2_with fail
      refine (HC.out _).mono ?_
      rintro e w1 ⟨rfl, hb1⟩
      obtain ⟨k35a, k35b, k35c⟩ := own_at hb1 (b := w.heap.size) (by first | omega | (simp; done) | (simp; omega)); have z36 := hb1.size; (try simp only [World.size_alloc, World.size_setCell] at z36)
      go_wp2_with (go_at_call 48; refine (In_no _ _ _ _ hk).mono ?_; rintro e w' ⟨rfl, rfl⟩)
      go_ret2
      refine ⟨by rw [HF.out]; rfl, ?_⟩
      (repeat (first | with_reducible exact hb1 | with_reducible refine Below.trans ?_ (Below.mono hb1 ?_) | with_reducible exact Below.refl _ _ | with_reducible refine Below.setCell ?_ ?_ _ | with_reducible refine Below.alloc ?_ ?_ _ | with_reducible refine Below.drew ?_ | with_reducible refine below_drewN ?_ _))
      all_goals (first | omega | (simp; done) | (simp; omega))
    · have HF := Lib.hid (partR_ok he hk)
      have hk1 : 1 ≤ kind := by omega
      have hk3 : kind ≤ 3 := by omega
      have HP := Lib.hid (fun wx => partOf_any kind a wx hz (by omega))
      clear he hk hz
      generalize partB kind a = p at *
      obtain ⟨l, d⟩ := a
      unfold Adr.val at *
      dsimp only at *
      go_enter Tryd.func18, Tryd.ntmps18
      go_wp2_with fail
      refine (HC.out _).mono ?_
      rintro e w1 ⟨rfl, hb1⟩
      obtain ⟨k37a, k37b, k37c⟩ := own_at hb1 (b := w.heap.size) (by first | omega | (simp; done) | (simp; omega)); have z38 := hb1.size; (try simp only [World.size_alloc, World.size_setCell] at z38)
      go_wp2_with (go_at_call 48; refine (In_yes _ _ _ _ hk1 hk3).mono ?_; rintro e w' ⟨rfl, rfl⟩)
      refine (HP.out _).mono ?_
      rintro e w2 ⟨rfl, hb2⟩
      go_wp2_with fail
      go_ret2
      refine ⟨by rw [HF.out]; rfl, ?_⟩
      (repeat (first | with_reducible exact hb2 | with_reducible refine Below.trans ?_ (Below.mono hb2 ?_) | with_reducible exact hb1 | with_reducible refine Below.trans ?_ (Below.mono hb1 ?_) | with_reducible exact Below.refl _ _ | with_reducible refine Below.setCell ?_ ?_ _ | with_reducible refine Below.alloc ?_ ?_ _ | with_reducible refine Below.drew ?_ | with_reducible refine below_drewN ?_ _))
      all_goals (first | omega | (simp; done) | (simp; omega))
  all_goals
    rw [he] at HC
    have HF := Lib.hid (partR_bad (kind := kind) (a := a) (by rw [he]; decide))
    rw [he] at HF
    clear he hz
    obtain ⟨l, d⟩ := a
    unfold Adr.val at *
    dsimp only at *
    go_enter Tryd.func18, Tryd.ntmps18
    go_wp2_with fail
    refine (HC.out _).mono ?_
    rintro e w1 ⟨rfl, hb1⟩
    obtain ⟨k39a, k39b, k39c⟩ := own_at hb1 (b := w.heap.size) (by first | omega | (simp; done) | (simp; omega)); have z40 := hb1.size; (try simp only [World.size_alloc, World.size_setCell] at z40)
    go_wp2_with fail
    go_ret2
    refine ⟨by rw [HF.out]; rfl, ?_⟩
    (repeat (first | with_reducible exact hb1 | with_reducible refine Below.trans ?_ (Below.mono hb1 ?_) | with_reducible exact Below.refl _ _ | with_reducible refine Below.setCell ?_ ?_ _ | with_reducible refine Below.alloc ?_ ?_ _ | with_reducible refine Below.drew ?_ | with_reducible refine below_drewN ?_ _))
    all_goals (first | omega | (simp; done) | (simp; omega))
end Go.Proofs.YtddiolgeaefieaaDoor

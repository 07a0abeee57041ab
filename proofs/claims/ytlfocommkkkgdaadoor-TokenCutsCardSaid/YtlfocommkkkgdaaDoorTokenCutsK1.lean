/- Texts that the law TokenCuts rests on, packed. -/
import Derived.Test.YtlfocommkkkgdaaDoorGD
import Derived.Test.YtlfocommkkkgdaaDoorShelfS
import Derived.Test.YtlfocommkkkgdaaDoorTokenCutsK0
import Derived.Test.YtlfocommkkkgdaaDoorGB
import Derived.Test.YtlfocommkkkgdaaDoorGC
import Derived.Test.YtlfocommkkkgdaaDoorGT
namespace Go.Proofs.YtlfocommkkkgdaaDoor
open Go.RowKit
set_option linter.unusedSimpArgs false
set_option linter.unusedVariables false
/-- the library's word on long texts is some number -/
def Lib0 (w : World) : Prop := 3 < w.heap.size ∧ ∃ m : Int, w.cell? ⟨3, 0, none⟩ = some (.int .i64 m)
theorem Lib0.below {w w' : World} (h : Lib0 w) (hb : Below w.heap.size w w') : Lib0 w' := by
  obtain ⟨h1, m, h2⟩ := h
  exact ⟨Nat.lt_of_lt_of_le h1 hb.size, m, (hb.cell (p := ⟨3, 0, none⟩) h1).trans h2⟩
theorem Lib0.to {w w' : World} {B : Nat} (h : Lib0 w) (hb : Below B w w') (hB : w.heap.size ≤ B) : Lib0 w' := h.below (hb.mono hB)
theorem Lib0.open_ {w : World} (h : w.ShapedOpen Tryd.prog) : Lib0 w := by
  obtain ⟨m, hm⟩ : ∃ m, w.cell? ⟨3, 0, none⟩ = some (.int .i64 m) := Go.Proofs.cell_of_shapedOpen_int (zero := #[.int .i64 0]) (t := 3) h (of_decide_eq_true (by kernel_rfl)) (by kernel_rfl) rfl (by kernel_rfl) (by kernel_rfl) Tryd.underlying3
  exact ⟨World.block_lt_of_cell? w ⟨3, 0, none⟩ hm, m, hm⟩
end Go.Proofs.YtlfocommkkkgdaaDoor

namespace Go.Proofs.YtlfocommkkkgdaaDoor
open Go.RowKit
set_option linter.unusedSimpArgs false
set_option linter.unusedVariables false
end Go.Proofs.YtlfocommkkkgdaaDoor

namespace Go.Proofs.YtlfocommkkkgdaaDoor
open Go.RowKit
set_option linter.unusedSimpArgs false
set_option linter.unusedVariables false
end Go.Proofs.YtlfocommkkkgdaaDoor

namespace Go.Proofs.YtlfocommkkkgdaaDoor
open Go.RowKit
set_option linter.unusedSimpArgs false
set_option linter.unusedVariables false
end Go.Proofs.YtlfocommkkkgdaaDoor

namespace Go.Proofs.YtlfocommkkkgdaaDoor
open Go.RowKit
set_option linter.unusedSimpArgs false
set_option linter.unusedVariables false
structure Adr where
  l : ByteArray
  d : ByteArray
def Adr.val (a : Adr) : Value := .agg #[.string a.l, .string a.d]
structure AdrOk (a : Adr) : Prop where
  hl : a.l.size ≤ 1048576
  hd : a.d.size ≤ 1048576
end Go.Proofs.YtlfocommkkkgdaaDoor

namespace Go.Proofs.YtlfocommkkkgdaaDoor
open Go.RowKit
set_option linter.unusedSimpArgs false
set_option linter.unusedVariables false
set_option linter.unusedVariables false
/-- the library's word on long texts -/
def LibT (T : Tbl) : Prop := ∃ m : Int, (T 3)[0]? = some (.int .i64 m)
theorem LibT.lib0 {T : Tbl} (h : LibT T) {F : Frz} {w : World} (hF : ∀ b o u, F b o = some u → w.cell? ⟨b, o, none⟩ = some u) (hT : ∀ g j x, (T g)[j]? = some x → ∃ u, F g j = some u ∧ VD F x u) : Lib0 w := by
  obtain ⟨m, hm⟩ := h
  obtain ⟨u, h1, h2⟩ := tbl_cell hF hT hm
  obtain rfl := h2.int_inv
  exact ⟨World.block_lt_of_cell? w ⟨3, 0, none⟩ h1, m, h1⟩
end Go.Proofs.YtlfocommkkkgdaaDoor

namespace Go.Proofs.YtlfocommkkkgdaaDoor
open Go.RowKit
set_option linter.unusedSimpArgs false
set_option linter.unusedVariables false
open Go.ChangeShapes Go.WideShapes Go.ChangeAt
open Go.ChangeMaps (open_string)
set_option maxRecDepth 20000
end Go.Proofs.YtlfocommkkkgdaaDoor

namespace Go.Proofs.YtlfocommkkkgdaaDoor
open Go.RowKit
set_option linter.unusedSimpArgs false
set_option linter.unusedVariables false
open Go.ChangeShapes Go.WideShapes Go.ChangeAt
def tabT : List (Nat × List D) → Tbl
  | [], _ => []
  | p :: l, g => if g = p.1 then p.2 else tabT l g
structure TabOk (W : World) (p : Nat × List D) : Prop where
  ok : ∀ (j : Nat) (x : D), p.2[j]? = some x → ∃ u, frzW W p.1 j = some u ∧ VD (frzW W) x u
theorem tabT_ok {W : World} : ∀ {l : List (Nat × List D)}, (∀ p ∈ l, TabOk W p) → ∀ g j x, (tabT l g)[j]? = some x → ∃ u, frzW W g j = some u ∧ VD (frzW W) x u
  | [], _, g, j, x, hx => by simp [tabT] at hx
  | p :: l, h, g, j, x, hx => by
    unfold tabT at hx
    split at hx
    · rename_i hg
      subst hg
      exact (h p (List.mem_cons_self ..)).ok j x hx
    · exact tabT_ok (fun q hq => h q (List.mem_cons_of_mem _ hq)) g j x hx
theorem TabOk.texts {W : World} {g : Nat} {zs : List (List UInt8)} (h : TextsAt W g zs) (hz : zs.all (fun z => Nat.ble z.length 4096) = true) : TabOk W (g, zs.map D.str) := ⟨fun j x hx => by
  rw [List.getElem?_map] at hx
  obtain ⟨z, hz1, rfl⟩ := Option.map_eq_some_iff.1 hx
  have := List.all_eq_true.1 hz z (List.mem_of_getElem? hz1)
  have hb := Nat.le_of_ble_eq_true this
  have hm : (4096 : Nat) ≤ maxLen := by decide
  exact ⟨_, h j z hz1, VD.bstr z (by omega)⟩⟩
theorem TabOk.int {W : World} {g : Nat} {m : Int} (h : W.cell? ⟨g, 0, none⟩ = some (.int .i64 m)) : TabOk W (g, [.int .i64 m]) := ⟨fun j x hx => by
  cases j with
  | zero => simp at hx; subst hx; exact ⟨_, h, .int _ _⟩
  | succ j => simp at hx⟩
end Go.Proofs.YtlfocommkkkgdaaDoor

namespace Go.Proofs.YtlfocommkkkgdaaDoor
set_option linter.unusedSimpArgs false
set_option linter.unusedVariables false
open Go.RowKit
theorem HasPre_p (T : Tbl) (s p : Tx) : PC Tryd.prog T 42 [.d (.str s), .d (.str p)] (.d (.bool (Lib.hasPrefix s p))) := PC.old Tryd.call42 fun F w vs hF hT R => by
  obtain ⟨v, u, rfl, hv, hu⟩ := slr2 R
  obtain ⟨t, rfl, e1, _⟩ := hv.str_inv
  obtain ⟨t2, rfl, e2, _⟩ := hu.str_inv
  subst e1 e2
  refine (Tryd.strings_HasPrefix t t2 w).mono ?_
  rintro e w' ⟨rfl, rfl⟩
  exact ⟨_, rfl, Below.refl _ _, .d (.bool _)⟩
theorem Index_p (T : Tbl) (hL : LibT T) (s p : Tx) (h1 : s.length ≤ 1048576) : PC Tryd.prog T 43 [.d (.str s), .d (.str p)] (.d (.int .i64 (Lib.index s p))) := PC.old Tryd.call43 fun F w vs hF hT R => by
  obtain ⟨v, u, rfl, hv, hu⟩ := slr2 R
  obtain ⟨t, rfl, e1, _⟩ := hv.str_inv
  obtain ⟨t2, rfl, e2, _⟩ := hu.str_inv
  obtain ⟨_, m, hm⟩ := hL.lib0 hF hT
  subst e1 e2
  have hsz : t.size ≤ 1048576 := h1
  refine (Tryd.strings_Index t t2 m w (by omega) hm).mono ?_
  rintro e w' ⟨rfl, rfl⟩
  exact ⟨_, rfl, Below.refl _ _, .d (.int _ _)⟩
theorem IndexByte_p (T : Tbl) (s : Tx) (c : UInt8) : PC Tryd.prog T 49 [.d (.str s), .d (.int .u8 (c.toNat : Int))] (.d (.int .i64 (Lib.indexByte s c))) := PC.old Tryd.call49 fun F w vs hF hT R => by
  obtain ⟨v, u, rfl, hv, hu⟩ := slr2 R
  obtain ⟨t, rfl, e1, _⟩ := hv.str_inv
  obtain rfl := hu.int_inv
  subst e1
  refine (Tryd.strings_IndexByte t c.toNat w).mono ?_
  rintro e w' ⟨rfl, rfl⟩
  refine ⟨_, rfl, Below.refl _ _, ?_⟩
  have : (c.toNat : Int).toNat.toUInt8 = c := by simp
  rw [this]
  exact .d (.int _ _)
def SkR (b : Nat) (s : Tx) (i : Nat) (F : List (Nat × Ob)) (L : List Nat) (x : AR) (h : AH) : Prop :=
  ∃ (j : Nat) (ok : Bool), sil 0 [] (s.drop i) = (s.drop j, ok) ∧ i ≤ j ∧ j ≤ s.length ∧ x = .ret (.d (.bool ok)) ∧ h = ⟨(b, ⟨2, 1, [[.d (.str s), .d (.int .i64 ((j : Nat) : Int))]]⟩) :: F, L⟩
theorem head_at {s : Tx} {j n : Nat} (h : ((s.getD j 0).toNat : Int) = n) (hn : n < 256) (h0 : 0 < n) : j < s.length ∧ s.drop j = UInt8.ofNat n :: s.drop (j + 1) := by
  have e := u8_is h hn
  rcases Nat.lt_or_ge j s.length with hj | hj
  · refine ⟨hj, ?_⟩
    rw [List.drop_eq_getElem_cons hj]
    have : s.getD j 0 = s[j] := by simp [List.getD, hj]
    rw [← e, this]
  · have : s.getD j 0 = 0 := by simp [List.getD, hj]
    rw [this] at h
    simp at h
    omega
theorem pre_at {s : Tx} {j : Nat} (h : Lib.hasPrefix (s.drop j) [47, 42] = true) : j + 2 ≤ s.length ∧ s.drop j = 47 :: 42 :: s.drop (j + 2) := by
  unfold Lib.hasPrefix at h
  have h1 := List.isPrefixOf_iff_prefix.1 h
  obtain ⟨q, hq⟩ := h1
  have hl := congrArg List.length hq
  simp at hl
  refine ⟨by omega, ?_⟩
  have : s.drop (j + 2) = q := by rw [← List.drop_drop, ← hq]; rfl
  rw [this, ← hq]; rfl
theorem sk_tok {s : Tx} {j : Nat} (hb : ∀ c r, s.drop j = c :: r → blB c = false) (h1 : ¬ ((s.getD j 0).toNat : Int) = 35) (h2 : Lib.hasPrefix (s.drop j) [47, 42] = false) : sil 0 [] (s.drop j) = (s.drop j, true) := by
  cases h : s.drop j with
  | nil => exact sil_nil
  | cons c r =>
    have hj : j < s.length := by
      rcases Nat.lt_or_ge j s.length with h9 | h9
      · exact h9
      · rw [List.drop_eq_nil_of_le h9] at h; cases h
    have hc : s.getD j 0 = c := by
      rw [List.drop_eq_getElem_cons hj] at h
      injection h with e1 e2
      simp [List.getD, hj, e1]
    refine sil_tok (hb c r h) (fun e => h1 (by rw [hc, e]; rfl)) fun ⟨e1, e2⟩ => ?_
    cases r with
    | nil => cases e2
    | cons d q =>
      simp at e2
      subst e1 e2
      rw [h] at h2
      simp [Lib.hasPrefix, List.isPrefixOf] at h2
theorem ix_le : ∀ {r : Tx} {n : Nat}, Lib.index r [42, 47] = n → n + 2 ≤ r.length
  | [], n, h => by unfold Lib.index at h; simp at h
  | c :: r, n, h => by
    unfold Lib.index at h
    split at h
    · rename_i hp
      have := (List.isPrefixOf_iff_prefix.1 hp).length_le
      simp at this ⊢
      omega
    · split at h
      · omega
      · have := Lib.index_ge r [42, 47]
        have := ix_le (r := r) (n := n - 1) (by simp at *; omega)
        simp
        omega
theorem dw_head {so : UInt8 → Bool} {l : Tx} {c : UInt8} {r : Tx} (h : l.dropWhile so = c :: r) : so c = false := by
  induction l with
  | nil => cases h
  | cons a l ih =>
    cases ha : so a with
    | true => rw [List.dropWhile_cons_of_pos ha] at h; exact ih h
    | false => rw [List.dropWhile_cons_of_neg (by simp [ha])] at h; injection h with e1 e2; rw [← e1]; exact ha
attribute [local go_sem] icast8 List.take_length in
set_option maxRecDepth 4000 in
set_option maxHeartbeats 1000000 in
theorem cskip_c (T : Tbl) (hL : LibT T) (b : Nat) (s : Tx) (i : Nat) (F : List (Nat × Ob)) (L : List Nat) (hi : i ≤ s.length) (hs : s.length ≤ 1048576) : AC Tryd.prog T 19 [.ptr b 2 0 0] (⟨(b, ⟨2, 1, [[.d (.str s), .d (.int .i64 ((i : Nat) : Int))]]⟩) :: F, L⟩) (SkR b s i F L) := by
 refine ⟨Tryd.call19, ACalls.enterS Tryd.func19 rfl Tryd.ntmps19 rfl fun hb => ?_⟩
 simp only [go_sem, Tryd.results19]
 refine Zp 1 ?_
 refine AWp.block ?_
 simp only [go_sem]
 refine Zl 1 0 (fun n lc hc => ∃ (j : Nat), n = s.length - j ∧ EqS lc [] ∧ EqS hc (⟨(b, ⟨2, 1, [[.d (.str s), .d (.int .i64 ((j : Nat) : Int))]]⟩) :: F, L⟩) ∧ (i ≤ j) ∧ (j ≤ s.length) ∧ (sil 0 [] (s.drop j) = sil 0 [] (s.drop i))) ?_ ?_
 · refine ⟨_, i, rfl, ZE, ZE, ?_, ?_, ?_⟩
   all_goals (first | omega | rfl)
 rintro _ _ _ ⟨j, rfl, ⟨rfl⟩, ⟨rfl⟩, h1, h2, h3⟩
 simp only [go_sem]
 refine AWp.block ?_
 have hk0 := dw_at blB s j
 have hk1 := tw_len blB s j h2
 obtain ⟨k, hk⟩ : ∃ k, k = j + ((s.drop j).takeWhile blB).length := ⟨_, rfl⟩
 rw [← hk] at hk0 hk1
 have hk3 : sil 0 [] (s.drop k) = sil 0 [] (s.drop i) := by rw [← hk0, sil_dw, h3]
 have hb0 : ∀ c r, s.drop k = c :: r → blB c = false := fun c r h9 => dw_head (hk0.trans h9)
 refine Zx ?_
 try simp only [go_sem]
 (repeat (with_reducible refine And.intro ZS ?_))
 refine DW.acp [b] [] rfl rfl rfl rfl (by (try simp only [go_sem]) <;> rfl) rfl (span_c T b s j F L h2 hs _ blB (bl_c T)) ?_
 rintro _ _ ⟨rfl, rfl⟩
 rw [← hk]
 try simp only [go_sem]
 (repeat (with_reducible refine And.intro ZS ?_))
 refine AWp.block ?_
 refine Zx ?_
 try simp only [go_sem]
 (repeat (with_reducible refine And.intro ZS ?_))
 refine DW.acp [b] [] rfl rfl rfl rfl (by (try simp only [go_sem]) <;> rfl) rfl (cnext_c T b s k F L hk1 hs) ?_
 rintro _ _ ⟨rfl, rfl⟩
 try simp only [go_sem]
 (repeat (with_reducible refine And.intro ZS ?_))
 refine Zm 9 ?_
 refine Zc (fun hc0 => ?_) fun hc0 => ?_
 ·
  obtain ⟨hkl, hd⟩ := head_at (n := 35) hc0 (by decide) (by decide)
  have hn0 := dw_at nlB s k
  have hn1 := tw_len nlB s k hk1
  have hn2 : 1 ≤ ((s.drop k).takeWhile nlB).length := by rw [hd, List.takeWhile_cons_of_pos (by decide)]; simp
  obtain ⟨q, hq⟩ : ∃ q, q = k + ((s.drop k).takeWhile nlB).length := ⟨_, rfl⟩
  rw [← hq] at hn0 hn1
  have hst : sil 0 [] (s.drop q) = sil 0 [] (s.drop i) := by rw [← hk3, ← hn0, hd]; exact sil_hash.symm
  refine Zq fun K_ k_ => ?_
  try simp only [go_sem]
  (repeat (with_reducible refine And.intro ZS ?_))
  refine DW.acp [b] [] rfl rfl rfl rfl (by (try simp only [go_sem]) <;> rfl) rfl (span_c T b s k F L hk1 hs _ nlB (nl_c T)) ?_
  rintro _ _ ⟨rfl, rfl⟩
  rw [← hq]
  try simp only [go_sem]
  (repeat (with_reducible refine And.intro ZS ?_))
  refine k_ _ _ (blkQ_n (blkQ_n (thenQ_n ?_)))
  refine Ze 1 0 [] [] [b] [] (.e ⟨_, ZM, q, rfl, ZE, ZE, ?_, ?_, ?_⟩)
  · omega
  · omega
  · first | exact hst | exact (hst).symm
 refine Zd true [0, 1, 2, 3, 4, 5, 6, 7, 8, 9, 10] ?_
 try simp only [go_sem]
 (repeat (with_reducible refine And.intro ZS ?_))
 refine DW.pcr rfl rfl rfl rfl (HasPre_p T _ _) rfl rfl ?_
 try simp only [go_sem]
 (repeat (with_reducible refine And.intro ZS ?_))
 refine Zm 5 ?_
 refine Zc (fun hc1 => ?_) fun hc1 => ?_
 ·
  obtain ⟨hp2, hpd⟩ := pre_at hc1
  have hk2 : ((k : Int) + 2).toNat = k + 2 := by omega
  have hcm : sil 0 [] (s.drop i) = if Lib.index (s.drop (k + 2)) [42, 47] < 0 then (s.drop k, false) else sil 0 [] ((s.drop (k + 2)).drop ((Lib.index (s.drop (k + 2)) [42, 47]).toNat + 2)) := by rw [← hk3, hpd, sil_com, sil2_ix]
  refine Zd true [0, 1, 2, 3, 4, 5, 6, 7, 8, 9, 10, 11] ?_
  try simp only [go_sem, hk2]
  (repeat (with_reducible refine And.intro ZS ?_))
  refine DW.pcr rfl rfl rfl rfl (Index_p T hL _ _ (by simp; omega)) rfl rfl ?_
  try simp only [go_sem, hk2]
  (repeat (with_reducible refine And.intro ZS ?_))
  refine Zm 3 ?_
  refine Zs ?_
  refine Zp 11 ?_
  refine Zc (fun hc2 => ?_) fun hc2 => ?_
  ·
   rw [if_pos hc2] at hcm
   refine Zp 2 ?_
   refine AWp.ret ?_
   try simp only [thenQ, blkQ]
   apply endW_r [] [] [b] [] (by (try simp only [go_sem, hk2]) <;> rfl)
   · exact ⟨k, false, hcm, by omega, hk1, rfl, by first | rfl | (simp only [go_sem]; done)⟩
   · simp [LeA, LeD]
  obtain ⟨n, hn⟩ : ∃ n : Nat, Lib.index (s.drop (k + 2)) [42, 47] = n := ⟨_, (Int.toNat_of_nonneg (by omega)).symm⟩
  have hix := ix_le hn
  rw [List.length_drop] at hix
  rw [if_neg (by omega), hn, List.drop_drop, Int.toNat_natCast, show k + 2 + (n + 2) = k + n + 4 by omega] at hcm
  have e4 : (k : Int) + ((n : Int) + 4) = ((k + n + 4 : Nat) : Int) := by omega
  rw [hn]
  refine Zk ?_
  refine Zr (blkQ_n (blkQ_n (thenQ_n ?_)))
  refine Ze 1 0 [] [] [b] [] (.e ⟨_, ZM, k + n + 4, rfl, ZE, ZE, ?_, ?_, ?_⟩)
  · omega
  · omega
  · first | exact hcm | exact (hcm).symm
 refine Zp 2 ?_
 refine AWp.ret ?_
 try simp only [thenQ, blkQ]
 apply endW_r [] [] [b] [] (by (try simp only [go_sem]) <;> rfl)
 · exact ⟨k, true, hk3.symm.trans (sk_tok hb0 hc0 (by simpa using hc1)), by omega, hk1, rfl, by first | rfl | (simp only [go_sem]; done)⟩
 · simp [LeA, LeD]
end Go.Proofs.YtlfocommkkkgdaaDoor

namespace Go.Proofs.YtlfocommkkkgdaaDoor
set_option linter.unusedSimpArgs false
set_option linter.unusedVariables false
open Go.RowKit
/-- digits as a number -/
def dvF (a : Nat) (l : Tx) : Nat := l.foldl (fun a c => a * 10 + (c.toNat - 48)) a
def dcV (l : Tx) : Nat := dvF 0 l
theorem dvF_le : ∀ (l : Tx) (a : Nat), a ≤ dvF a l
  | [], a => Nat.le_refl _
  | c :: l, a => by
    have := dvF_le l (a * 10 + (c.toNat - 48))
    unfold dvF at this ⊢
    rw [List.foldl_cons]
    omega
theorem pu_dv : ∀ (l : Tx) (a : Nat), (∀ c ∈ l, digB c = true) → a < 18446744073709551616 → Lib.parseUint10 a l = if dvF a l < 18446744073709551616 then .ok (dvF a l) else .range
  | [], a, _, ha => by rw [Lib.parseUint10, if_pos (show dvF a [] < _ from ha)]; rfl
  | c :: l, a, h, ha => by
    have hc := h c (List.mem_cons_self ..)
    simp only [digB, Bool.and_eq_true, decide_eq_true_eq] at hc
    have e : dvF a (c :: l) = dvF (a * 10 + (c.toNat - 48)) l := rfl
    have hle := dvF_le l (a * 10 + (c.toNat - 48))
    rw [Lib.parseUint10, if_pos ⟨by omega, by omega⟩]
    split
    · rw [if_neg (by omega)]
    split
    · rw [if_neg (by omega)]
    rw [pu_dv l _ (fun x hx => h x (List.mem_cons_of_mem _ hx)) (by omega), e]
theorem atoi_dv {l : Tx} (h : ∀ c ∈ l, digB c = true) (h0 : l ≠ []) : Lib.atoiAll l = if dcV l < 9223372036854775808 then .ok (dcV l : Int) else .range := by
  cases l with
  | nil => exact absurd rfl h0
  | cons c r =>
    have hc := h c (List.mem_cons_self ..)
    simp only [digB, Bool.and_eq_true, decide_eq_true_eq] at hc
    rw [Lib.atoiAll_plain c r (by omega) (by omega), Lib.parseMag, if_neg (by simp), pu_dv _ _ h (by decide)]
    show Lib.signless (if dcV (c :: r) < _ then _ else _) = _
    by_cases h1 : dcV (c :: r) < 18446744073709551616
    · rw [if_pos h1]
      by_cases h2 : dcV (c :: r) < 9223372036854775808
      · rw [if_pos h2, Lib.signless, if_neg (by unfold dcV at h2; omega)]; rfl
      · rw [if_neg h2, Lib.signless, if_pos (by unfold dcV at h2; omega)]
    · rw [if_neg h1, if_neg (by omega)]; rfl
/-- what Go's library knows of an overflow -/
def ErT (T : Tbl) : Prop := ∃ (te : TypeId) (pe : Value), (T 8)[0]? = some (.raw (.iface te pe))
theorem atoi_lo (T : Tbl) (l : Tx) (h : ∀ c ∈ l, digB c = true) (h0 : l ≠ []) (hl : l.length ≤ 1048576) (hv : dcV l < 9223372036854775808) : PC Tryd.prog T 77 [.d (.str l)] (.tup [.d (.int .i64 (dcV l : Int)), .nili]) := PC.old Tryd.call77 fun F w vs hF hT R => by
  obtain ⟨v, rfl, hv1⟩ := slr1 R
  obtain ⟨t, rfl, e1, _⟩ := hv1.str_inv
  subst e1
  have hsz : t.size ≤ 1048576 := hl
  refine (Tryd.strconv_Atoi_ok t (by omega) _ (by rw [atoi_dv h h0, if_pos hv]) w).mono ?_
  rintro e w' ⟨rfl, hw⟩
  refine ⟨_, rfl, ?_, VR.tup [.d (.int .i64 _), .nili] [_, _] rfl fun i a v ha hv => ?_⟩
  · rcases hw with rfl | ⟨k, rfl⟩
    · exact Below.refl _ _
    · first | exact Lib.bytesWorld_below _ _ _ | exact bytesWorld_below _ _ _ | exact below_bytesWorld _ _ _ _ (Nat.le_refl _)
  match i, ha, hv with
  | 0, ha, hv => simp at ha hv; subst ha hv; exact .d (.int _ _)
  | 1, ha, hv => simp at ha hv; subst ha hv; exact .nili
  | i + 2, ha, hv => simp at ha
theorem atoi_hi (T : Tbl) (hE : ErT T) (l : Tx) (h : ∀ c ∈ l, digB c = true) (h0 : l ≠ []) (hl : l.length ≤ 1048576) (hv : ¬ dcV l < 9223372036854775808) : PC Tryd.prog T 77 [.d (.str l)] (.tup [.d (.int .i64 (Lib.atoiSat l)), .ifc 151 .any]) := PC.old Tryd.call77 fun F w vs hF hT R => by
  obtain ⟨v, rfl, hv1⟩ := slr1 R
  obtain ⟨t, rfl, e1, _⟩ := hv1.str_inv
  subst e1
  have hsz : t.size ≤ 1048576 := hl
  obtain ⟨te, pe, hte⟩ := hE
  obtain ⟨u, hu1, hu2⟩ := tbl_cell hF hT hte
  have hu3 : u = .iface te pe := by cases hu2; rfl
  subst hu3
  refine (Tryd.strconv_Atoi_range t (by omega) (by rw [atoi_dv h h0, if_neg hv]) _ w hu1 (.inr ⟨te, pe, rfl⟩)).mono ?_
  rintro e w' ⟨N, rfl, _, _, hb⟩
  refine ⟨_, rfl, hb, VR.tup [.d (.int .i64 _), .ifc _ .any] [_, _] rfl fun i a v ha hv => ?_⟩
  match i, ha, hv with
  | 0, ha, hv => simp at ha hv; subst ha hv; exact .d (.int _ _)
  | 1, ha, hv => simp at ha hv; subst ha hv; exact .ifc _ (.any _)
  | i + 2, ha, hv => simp at ha
def numM (r : Tx) : Nat × Tx := if (r.headD 0).toNat = 75 ∨ (r.headD 0).toNat = 107 then (10, r.drop 1) else if (r.headD 0).toNat = 77 ∨ (r.headD 0).toNat = 109 then (20, r.drop 1) else (0, r)
def limN (k : Nat) : Nat := if k = 10 then 2097151 else if k = 20 then 2047 else 2147483647
def mulN (k : Nat) : Nat := if k = 10 then 1024 else if k = 20 then 1048576 else 1
/-- a number: its value, what is wrong, what stands behind it -/
def numS (l : Tx) : Int × Int × Tx :=
  if wdB ((numM (l.dropWhile digB)).2.headD 0) = true then (0, 3, (numM (l.dropWhile digB)).2)
  else if limN (numM (l.dropWhile digB)).1 < dcV (l.takeWhile digB) then (0, 6, (numM (l.dropWhile digB)).2)
  else (((dcV (l.takeWhile digB) * mulN (numM (l.dropWhile digB)).1 : Nat) : Int), 0, (numM (l.dropWhile digB)).2)
theorem numS_3 {l q : Tx} {k : Nat} (hm : numM (l.dropWhile digB) = (k, q)) (hw : wdB (q.headD 0) = true) : numS l = (0, 3, q) := by rw [numS, hm, if_pos hw]
theorem numS_6 {l q : Tx} {k : Nat} (hm : numM (l.dropWhile digB) = (k, q)) (hw : wdB (q.headD 0) = false) (h : limN k < dcV (l.takeWhile digB)) : numS l = (0, 6, q) := by rw [numS, hm, if_neg (by simpa using hw), if_pos h]
theorem numS_0 {l q : Tx} {k : Nat} (hm : numM (l.dropWhile digB) = (k, q)) (hw : wdB (q.headD 0) = false) (h : ¬ limN k < dcV (l.takeWhile digB)) : numS l = (((dcV (l.takeWhile digB) * mulN k : Nat) : Int), 0, q) := by rw [numS, hm, if_neg (by simpa using hw), if_neg h]
theorem hd_at (s : Tx) (j : Nat) : (s.drop j).headD 0 = s.getD j 0 := by
  rcases Nat.lt_or_ge j s.length with h | h
  · rw [List.drop_eq_getElem_cons h]; simp [List.getD, h]
  · rw [List.drop_eq_nil_of_le h]; simp [List.getD, h]
theorem nM_10 {s : Tx} {k : Nat} (h : ((s.getD k 0).toNat : Int) = 75 ∨ ((s.getD k 0).toNat : Int) = 107) : numM (s.drop k) = (10, s.drop (k + 1)) := by rw [numM, hd_at, if_pos (by omega), List.drop_drop]
theorem nM_20 {s : Tx} {k : Nat} (h1 : ¬ (((s.getD k 0).toNat : Int) = 75 ∨ ((s.getD k 0).toNat : Int) = 107)) (h : ((s.getD k 0).toNat : Int) = 77 ∨ ((s.getD k 0).toNat : Int) = 109) : numM (s.drop k) = (20, s.drop (k + 1)) := by rw [numM, hd_at, if_neg (by omega), if_pos (by omega), List.drop_drop]
theorem nM_0 {s : Tx} {k : Nat} (h1 : ¬ (((s.getD k 0).toNat : Int) = 75 ∨ ((s.getD k 0).toNat : Int) = 107)) (h : ¬ (((s.getD k 0).toNat : Int) = 77 ∨ ((s.getD k 0).toNat : Int) = 109)) : numM (s.drop k) = (0, s.drop k) := by rw [numM, hd_at, if_neg (by omega), if_neg (by omega)]
theorem get_lt {s : Tx} {j : Nat} (h : 0 < (s.getD j 0).toNat) : j < s.length := by
  rcases Nat.lt_or_ge j s.length with h9 | h9
  · exact h9
  · simp [List.getD, h9] at h
def NmRc (b : Nat) (s : Tx) (i : Nat) (F : List (Nat × Ob)) (L : List Nat) (x : AR) (h : AH) : Prop :=
  ∃ (v e : Int) (j : Nat), numS (s.drop i) = (v, e, s.drop j) ∧ j ≤ s.length ∧ x = .ret (.tup [.d (.int .i64 v), .d (.int .i64 e)]) ∧ h = ⟨(b, ⟨2, 1, [[.d (.str s), .d (.int .i64 ((j : Nat) : Int))]]⟩) :: F, L⟩
theorem pwr_a : (2 : Int) ^ min (Int.toNat 10) 64 = 1024 := by decide
theorem pwr_b : (2 : Int) ^ min (Int.toNat 20) 64 = 1048576 := by decide
theorem pwr_c : (2 : Int) ^ min 0 64 = 1 := by decide
theorem fd_a : Int.fdiv 2147483647 1024 = 2097151 := by decide
theorem fd_b : Int.fdiv 2147483647 1048576 = 2047 := by decide
theorem fd_c : Int.fdiv 2147483647 1 = 2147483647 := by decide
theorem tw_dig (s : Tx) (i : Nat) : ∀ c ∈ (s.drop i).takeWhile digB, digB c = true := fun c hc => by
  have := List.all_takeWhile (p := digB) (l := s.drop i)
  exact List.all_eq_true.1 this c hc
attribute [local go_sem] icast8 pwr_a pwr_b pwr_c fd_a fd_b fd_c Bool.not_false Bool.not_true in
set_option maxRecDepth 4000 in
set_option maxHeartbeats 1000000 in
theorem cnum_c (T : Tbl) (hE : ErT T) (b : Nat) (s : Tx) (i : Nat) (F : List (Nat × Ob)) (L : List Nat) (hi : i < s.length) (hs : s.length ≤ 1048576) (hd : digB (s.getD i 0) = true) : AC Tryd.prog T 47 [.ptr b 2 0 0] (⟨(b, ⟨2, 1, [[.d (.str s), .d (.int .i64 ((i : Nat) : Int))]]⟩) :: F, L⟩) (NmRc b s i F L) := by
 refine ⟨Tryd.call47, ACalls.enterS Tryd.func47 rfl Tryd.ntmps47 rfl fun hb => ?_⟩
 have hk0 := dw_at digB s i
 have hk1 := tw_len digB s i (by omega)
 obtain ⟨k, hk⟩ : ∃ k, k = i + ((s.drop i).takeWhile digB).length := ⟨_, rfl⟩
 rw [← hk] at hk0 hk1
 replace hk := hk.symm
 have hD := tw_dig s i
 have hD0 : (s.drop i).takeWhile digB ≠ [] := by rw [List.drop_eq_getElem_cons hi, List.takeWhile_cons_of_pos (by simpa [List.getD, hi] using hd)]; simp
 have hDl : ((s.drop i).takeWhile digB).length ≤ 1048576 := by omega
 simp only [go_sem, Tryd.results47]
 refine Zp 1 ?_
 refine Zx ?_
 try simp only [go_sem]
 (repeat (with_reducible refine And.intro ZS ?_))
 refine DW.acp [b] [] rfl rfl rfl rfl (by (try simp only [go_sem]) <;> rfl) rfl (span_c T b s i F L (by omega) hs _ digB (digit_c T)) ?_
 rintro _ _ ⟨rfl, rfl⟩
 rw [hk]
 try simp only [go_sem]
 (repeat (with_reducible refine And.intro ZS ?_))
 by_cases hv : dcV ((s.drop i).takeWhile digB) < 9223372036854775808
 ·
  refine Zx ?_
  try simp only [go_sem]
  (repeat (with_reducible refine And.intro ZS ?_))
  refine DW.pcr rfl rfl rfl rfl (atoi_lo T _ hD hD0 hDl hv) rfl rfl ?_
  try simp only [go_sem]
  (repeat (with_reducible refine And.intro ZS ?_))
  refine Zm 13 ?_
  refine Zp 15 ?_
  refine Zs ?_
  refine Zx ?_
  try simp only [go_sem]
  (repeat (with_reducible refine And.intro ZS ?_))
  refine DW.acp [b] [] rfl rfl rfl rfl (by (try simp only [go_sem]) <;> rfl) rfl (cnext_c T b s k F L (by omega) hs) ?_
  rintro _ _ ⟨rfl, rfl⟩
  try simp only [go_sem]
  (repeat (with_reducible refine And.intro ZS ?_))
  refine AWp.block ?_
  refine Zs ?_
  refine Zp 111 ?_
  simp only [go_sem]
  apply Za (z := (_ || _)) 31 17
  ·
   refine AWp.cond _ rfl (fun hc0 => ?_) fun hc0 => ?_
   rotate_left
   ·
    refine Zr (thenQ_n ?_)
    refine Zf 31 32 (.e ⟨EqS.bo (or_f hc0 rfl), ⟨rfl⟩⟩)
   refine AWp.skip (thenQ_n ?_)
   refine Zf 31 32 (.e ⟨EqS.bo (or_t hc0), ⟨rfl⟩⟩)
  simp only [go_sem]
  refine Zc (fun hc1 => ?_) fun hc1 => ?_
  ·
   have hm := nM_10 hc1
   rw [← hk0] at hm
   have hkl : k < s.length := get_lt (by omega)
   refine Zp 15 ?_
   refine Zr (blkQ_n (thenQ_n ?_))
   refine Zm 15 ?_
   refine Zs ?_
   rcases hlb : letB (s.getD (k + 1) 0) with _ | _
   ·
    refine AWp.rsG 5 fun K_ hK_ => ?_
    simp only [List.take_succ_cons, List.take_zero, List.drop_succ_cons, List.drop_zero]
    try simp only [go_sem, hlb]
    (repeat (with_reducible refine And.intro ZS ?_))
    refine DW.acp [b] [] rfl rfl rfl rfl (by (try simp only [go_sem, hlb]) <;> rfl) rfl (cnext_c T b s (k + 1) F L (by omega) hs) ?_
    rintro _ _ ⟨rfl, rfl⟩
    try simp only [go_sem, hlb]
    (repeat (with_reducible refine And.intro ZS ?_))
    refine DW.pcr rfl rfl rfl rfl (letter_c T _) rfl rfl ?_
    try simp only [go_sem, hlb]
    (repeat (with_reducible refine And.intro ZS ?_))
    refine LV.gcall rfl rfl (by first | rfl | (simp only [go_sem, hlb]; done) | (simp only [go_sem, hlb]; rfl)) rfl rfl (by rfl) (LeH.refl _) (by first | rfl | (simp only [go_sem, hlb]; done) | (simp only [go_sem, hlb]; rfl)) (cnext_c T b s (k + 1) F L (by omega) hs) ?_
    rintro _ _ ⟨rfl, rfl⟩
    refine LV.leH (LeH.refl _) (LV.lvc ?_)
    try simp only [go_sem, hlb]
    (repeat (with_reducible refine And.intro ZS ?_))
    refine DW.pcgr rfl rfl rfl rfl rfl (fun hg => digit_c T _) (fun hg => by (try simp only [go_sem, hlb]) <;> first | exact hg | (exfalso; simp at hg; done) | (simpa using hg) | grind) rfl rfl ?_
    try simp only [go_sem, hlb]
    (repeat (with_reducible refine And.intro ZS ?_))
    refine hK_ _ _ ?_
    refine Zm 2062 ?_
    refine Zc (fun hc4 => ?_) fun hc4 => ?_
    ·
     have hw : wdB ((s.drop (k + 1)).headD 0) = true := by rw [hd_at, wdB, hlb]; first | rfl | (simpa using hc4)
     refine Zp 3 ?_
     refine AWp.ret ?_
     try simp only [thenQ, blkQ]
     apply endW_r [] [] [b] [] (by (try simp only [go_sem, hlb]) <;> rfl)
     · exact ⟨0, 3, (k + 1), numS_3 hm hw, by omega, rfl, by first | rfl | (simp only [go_sem, hlb]; done)⟩
     · simp [LeA, LeD, LeL]
    have hw : wdB ((s.drop (k + 1)).headD 0) = false := by rw [hd_at, wdB, hlb]; simpa using hc4
    refine Zk ?_
    refine Zs ?_
    refine AWp.rsG 1 fun K_ hK_ => ?_
    simp only [List.take_succ_cons, List.take_zero, List.drop_succ_cons, List.drop_zero]
    try simp only [go_sem, hlb]
    (repeat (with_reducible refine And.intro ZS ?_))
    refine LV.dw1 ?_
    refine DW.nilN rfl rfl (by first | rfl | (simp only [go_sem]; done)) (by simp only [go_sem]) ?_
    refine DW.nil ?_
    refine LV.lvc ?_
    try simp only [go_sem, hlb]
    (repeat (with_reducible refine And.intro ZS ?_))
    refine hK_ _ _ ?_
    refine Zm 2053 ?_
    refine Zc (fun hc5 => ?_) fun hc5 => ?_
    ·
     refine Zp 3 ?_
     refine AWp.ret ?_
     try simp only [thenQ, blkQ]
     apply endW_r [] [] [b] [] (by (try simp only [go_sem, hlb]) <;> rfl)
     · exact ⟨0, 6, (k + 1), numS_6 hm hw (by simp only [limN]; first | omega | (simp; omega)), by omega, rfl, by first | rfl | (simp only [go_sem, hlb]; done)⟩
     · simp [LeA, LeD, LeL]
    refine Zk ?_
    refine Zp 3 ?_
    refine AWp.ret ?_
    try simp only [thenQ, blkQ]
    apply endW_r [] [] [b] [] (by (try simp only [go_sem, hlb]) <;> rfl)
    · exact ⟨_, 0, (k + 1), numS_0 hm hw (by simp only [limN]; first | omega | (simp; omega)), by omega, rfl, by first | rfl | (simp only [go_sem, hlb]; done)⟩
    · simp [LeA, LeD, LeL, mulN]
   refine Zx ?_
   try simp only [go_sem, hlb]
   (repeat (with_reducible refine And.intro ZS ?_))
   refine DW.acp [b] [] rfl rfl rfl rfl (by (try simp only [go_sem, hlb]) <;> rfl) rfl (cnext_c T b s (k + 1) F L (by omega) hs) ?_
   rintro _ _ ⟨rfl, rfl⟩
   try simp only [go_sem, hlb]
   (repeat (with_reducible refine And.intro ZS ?_))
   refine DW.pcr rfl rfl rfl rfl (letter_c T _) rfl rfl ?_
   try simp only [go_sem, hlb]
   (repeat (with_reducible refine And.intro ZS ?_))
   refine DW.skipc rfl rfl ?_
   try simp only [go_sem, hlb]
   (repeat (with_reducible refine And.intro ZS ?_))
   refine DW.skipc rfl rfl ?_
   try simp only [go_sem, hlb]
   (repeat (with_reducible refine And.intro ZS ?_))
   refine Zm 2062 ?_
   refine Zc (fun hc4 => ?_) fun hc4 => ?_
   ·
    have hw : wdB ((s.drop (k + 1)).headD 0) = true := by rw [hd_at, wdB, hlb]; first | rfl | (simpa using hc4)
    refine Zp 3 ?_
    refine AWp.ret ?_
    try simp only [thenQ, blkQ]
    apply endW_r [] [] [b] [] (by (try simp only [go_sem, hlb]) <;> rfl)
    · exact ⟨0, 3, (k + 1), numS_3 hm hw, by omega, rfl, by first | rfl | (simp only [go_sem, hlb]; done)⟩
    · simp [LeA, LeD, LeL]
   exact absurd hc4 (by first | (simp; done) | omega | (simp [*]; done))
  refine Zs ?_
  refine Zp 95 ?_
  simp only [go_sem]
  apply Za (z := (_ || _)) 15 27
  ·
   refine AWp.cond _ rfl (fun hc2 => ?_) fun hc2 => ?_
   rotate_left
   ·
    refine Zr (thenQ_n ?_)
    refine Zf 15 32 (.e ⟨EqS.bo (or_f hc2 rfl), ⟨rfl⟩⟩)
   refine AWp.skip (thenQ_n ?_)
   refine Zf 15 32 (.e ⟨EqS.bo (or_t hc2), ⟨rfl⟩⟩)
  simp only [go_sem]
  refine Zc (fun hc3 => ?_) fun hc3 => ?_
  ·
   have hm := nM_20 (by omega) hc3
   rw [← hk0] at hm
   have hkl : k < s.length := get_lt (by omega)
   refine Zp 15 ?_
   refine Zr (blkQ_n (thenQ_n ?_))
   refine Zm 15 ?_
   refine Zs ?_
   rcases hlb : letB (s.getD (k + 1) 0) with _ | _
   ·
    refine AWp.rsG 5 fun K_ hK_ => ?_
    simp only [List.take_succ_cons, List.take_zero, List.drop_succ_cons, List.drop_zero]
    try simp only [go_sem, hlb]
    (repeat (with_reducible refine And.intro ZS ?_))
    refine DW.acp [b] [] rfl rfl rfl rfl (by (try simp only [go_sem, hlb]) <;> rfl) rfl (cnext_c T b s (k + 1) F L (by omega) hs) ?_
    rintro _ _ ⟨rfl, rfl⟩
    try simp only [go_sem, hlb]
    (repeat (with_reducible refine And.intro ZS ?_))
    refine DW.pcr rfl rfl rfl rfl (letter_c T _) rfl rfl ?_
    try simp only [go_sem, hlb]
    (repeat (with_reducible refine And.intro ZS ?_))
    refine LV.gcall rfl rfl (by first | rfl | (simp only [go_sem, hlb]; done) | (simp only [go_sem, hlb]; rfl)) rfl rfl (by rfl) (LeH.refl _) (by first | rfl | (simp only [go_sem, hlb]; done) | (simp only [go_sem, hlb]; rfl)) (cnext_c T b s (k + 1) F L (by omega) hs) ?_
    rintro _ _ ⟨rfl, rfl⟩
    refine LV.leH (LeH.refl _) (LV.lvc ?_)
    try simp only [go_sem, hlb]
    (repeat (with_reducible refine And.intro ZS ?_))
    refine DW.pcgr rfl rfl rfl rfl rfl (fun hg => digit_c T _) (fun hg => by (try simp only [go_sem, hlb]) <;> first | exact hg | (exfalso; simp at hg; done) | (simpa using hg) | grind) rfl rfl ?_
    try simp only [go_sem, hlb]
    (repeat (with_reducible refine And.intro ZS ?_))
    refine hK_ _ _ ?_
    refine Zm 2062 ?_
    refine Zc (fun hc4 => ?_) fun hc4 => ?_
    ·
     have hw : wdB ((s.drop (k + 1)).headD 0) = true := by rw [hd_at, wdB, hlb]; first | rfl | (simpa using hc4)
     refine Zp 3 ?_
     refine AWp.ret ?_
     try simp only [thenQ, blkQ]
     apply endW_r [] [] [b] [] (by (try simp only [go_sem, hlb]) <;> rfl)
     · exact ⟨0, 3, (k + 1), numS_3 hm hw, by omega, rfl, by first | rfl | (simp only [go_sem, hlb]; done)⟩
     · simp [LeA, LeD, LeL]
    have hw : wdB ((s.drop (k + 1)).headD 0) = false := by rw [hd_at, wdB, hlb]; simpa using hc4
    refine Zk ?_
    refine Zs ?_
    refine AWp.rsG 1 fun K_ hK_ => ?_
    simp only [List.take_succ_cons, List.take_zero, List.drop_succ_cons, List.drop_zero]
    try simp only [go_sem, hlb]
    (repeat (with_reducible refine And.intro ZS ?_))
    refine LV.dw1 ?_
    refine DW.nilN rfl rfl (by first | rfl | (simp only [go_sem]; done)) (by simp only [go_sem]) ?_
    refine DW.nil ?_
    refine LV.lvc ?_
    try simp only [go_sem, hlb]
    (repeat (with_reducible refine And.intro ZS ?_))
    refine hK_ _ _ ?_
    refine Zm 2053 ?_
    refine Zc (fun hc5 => ?_) fun hc5 => ?_
    ·
     refine Zp 3 ?_
     refine AWp.ret ?_
     try simp only [thenQ, blkQ]
     apply endW_r [] [] [b] [] (by (try simp only [go_sem, hlb]) <;> rfl)
     · exact ⟨0, 6, (k + 1), numS_6 hm hw (by simp only [limN]; first | omega | (simp; omega)), by omega, rfl, by first | rfl | (simp only [go_sem, hlb]; done)⟩
     · simp [LeA, LeD, LeL]
    refine Zk ?_
    refine Zp 3 ?_
    refine AWp.ret ?_
    try simp only [thenQ, blkQ]
    apply endW_r [] [] [b] [] (by (try simp only [go_sem, hlb]) <;> rfl)
    · exact ⟨_, 0, (k + 1), numS_0 hm hw (by simp only [limN]; first | omega | (simp; omega)), by omega, rfl, by first | rfl | (simp only [go_sem, hlb]; done)⟩
    · simp [LeA, LeD, LeL, mulN]
   refine Zx ?_
   try simp only [go_sem, hlb]
   (repeat (with_reducible refine And.intro ZS ?_))
   refine DW.acp [b] [] rfl rfl rfl rfl (by (try simp only [go_sem, hlb]) <;> rfl) rfl (cnext_c T b s (k + 1) F L (by omega) hs) ?_
   rintro _ _ ⟨rfl, rfl⟩
   try simp only [go_sem, hlb]
   (repeat (with_reducible refine And.intro ZS ?_))
   refine DW.pcr rfl rfl rfl rfl (letter_c T _) rfl rfl ?_
   try simp only [go_sem, hlb]
   (repeat (with_reducible refine And.intro ZS ?_))
   refine DW.skipc rfl rfl ?_
   try simp only [go_sem, hlb]
   (repeat (with_reducible refine And.intro ZS ?_))
   refine DW.skipc rfl rfl ?_
   try simp only [go_sem, hlb]
   (repeat (with_reducible refine And.intro ZS ?_))
   refine Zm 2062 ?_
   refine Zc (fun hc4 => ?_) fun hc4 => ?_
   ·
    have hw : wdB ((s.drop (k + 1)).headD 0) = true := by rw [hd_at, wdB, hlb]; first | rfl | (simpa using hc4)
    refine Zp 3 ?_
    refine AWp.ret ?_
    try simp only [thenQ, blkQ]
    apply endW_r [] [] [b] [] (by (try simp only [go_sem, hlb]) <;> rfl)
    · exact ⟨0, 3, (k + 1), numS_3 hm hw, by omega, rfl, by first | rfl | (simp only [go_sem, hlb]; done)⟩
    · simp [LeA, LeD, LeL]
   exact absurd hc4 (by first | (simp; done) | omega | (simp [*]; done))
  have hm := nM_0 (s := s) (k := k) (by omega) (by omega)
  replace hm : numM ((s.drop i).dropWhile digB) = (0, s.drop k) := by rw [hk0]; exact hm
  refine AWp.skip (blkQ_n (thenQ_n ?_))
  refine Zs ?_
  rcases hlb : letB (s.getD k 0) with _ | _
  ·
   refine AWp.rsG 5 fun K_ hK_ => ?_
   simp only [List.take_succ_cons, List.take_zero, List.drop_succ_cons, List.drop_zero]
   try simp only [go_sem, hlb]
   (repeat (with_reducible refine And.intro ZS ?_))
   refine DW.acp [b] [] rfl rfl rfl rfl (by (try simp only [go_sem, hlb]) <;> rfl) rfl (cnext_c T b s k F L (by omega) hs) ?_
   rintro _ _ ⟨rfl, rfl⟩
   try simp only [go_sem, hlb]
   (repeat (with_reducible refine And.intro ZS ?_))
   refine DW.pcr rfl rfl rfl rfl (letter_c T _) rfl rfl ?_
   try simp only [go_sem, hlb]
   (repeat (with_reducible refine And.intro ZS ?_))
   refine LV.gcall rfl rfl (by first | rfl | (simp only [go_sem, hlb]; done) | (simp only [go_sem, hlb]; rfl)) rfl rfl (by rfl) (LeH.refl _) (by first | rfl | (simp only [go_sem, hlb]; done) | (simp only [go_sem, hlb]; rfl)) (cnext_c T b s k F L (by omega) hs) ?_
   rintro _ _ ⟨rfl, rfl⟩
   refine LV.leH (LeH.refl _) (LV.lvc ?_)
   try simp only [go_sem, hlb]
   (repeat (with_reducible refine And.intro ZS ?_))
   refine DW.pcgr rfl rfl rfl rfl rfl (fun hg => digit_c T _) (fun hg => by (try simp only [go_sem, hlb]) <;> first | exact hg | (exfalso; simp at hg; done) | (simpa using hg) | grind) rfl rfl ?_
   try simp only [go_sem, hlb]
   (repeat (with_reducible refine And.intro ZS ?_))
   refine hK_ _ _ ?_
   refine Zm 4110 ?_
   refine Zc (fun hc4 => ?_) fun hc4 => ?_
   ·
    have hw : wdB ((s.drop k).headD 0) = true := by rw [hd_at, wdB, hlb]; first | rfl | (simpa using hc4)
    refine Zp 3 ?_
    refine AWp.ret ?_
    try simp only [thenQ, blkQ]
    apply endW_r [] [] [b] [] (by (try simp only [go_sem, hlb]) <;> rfl)
    · exact ⟨0, 3, k, numS_3 hm hw, by omega, rfl, by first | rfl | (simp only [go_sem, hlb]; done)⟩
    · simp [LeA, LeD, LeL]
   have hw : wdB ((s.drop k).headD 0) = false := by rw [hd_at, wdB, hlb]; simpa using hc4
   refine Zk ?_
   refine Zs ?_
   refine AWp.rsG 1 fun K_ hK_ => ?_
   simp only [List.take_succ_cons, List.take_zero, List.drop_succ_cons, List.drop_zero]
   try simp only [go_sem, hlb]
   (repeat (with_reducible refine And.intro ZS ?_))
   refine LV.dw1 ?_
   refine DW.nilN rfl rfl (by first | rfl | (simp only [go_sem]; done)) (by simp only [go_sem]) ?_
   refine DW.nil ?_
   refine LV.lvc ?_
   try simp only [go_sem, hlb]
   (repeat (with_reducible refine And.intro ZS ?_))
   refine hK_ _ _ ?_
   refine Zm 2053 ?_
   refine Zc (fun hc5 => ?_) fun hc5 => ?_
   ·
    refine Zp 3 ?_
    refine AWp.ret ?_
    try simp only [thenQ, blkQ]
    apply endW_r [] [] [b] [] (by (try simp only [go_sem, hlb]) <;> rfl)
    · exact ⟨0, 6, k, numS_6 hm hw (by simp only [limN]; first | omega | (simp; omega)), by omega, rfl, by first | rfl | (simp only [go_sem, hlb]; done)⟩
    · simp [LeA, LeD, LeL]
   refine Zk ?_
   refine Zp 3 ?_
   refine AWp.ret ?_
   try simp only [thenQ, blkQ]
   apply endW_r [] [] [b] [] (by (try simp only [go_sem, hlb]) <;> rfl)
   · exact ⟨_, 0, k, numS_0 hm hw (by simp only [limN]; first | omega | (simp; omega)), by omega, rfl, by first | rfl | (simp only [go_sem, hlb]; done)⟩
   · simp [LeA, LeD, LeL, mulN]
  refine Zx ?_
  try simp only [go_sem, hlb]
  (repeat (with_reducible refine And.intro ZS ?_))
  refine DW.acp [b] [] rfl rfl rfl rfl (by (try simp only [go_sem, hlb]) <;> rfl) rfl (cnext_c T b s k F L (by omega) hs) ?_
  rintro _ _ ⟨rfl, rfl⟩
  try simp only [go_sem, hlb]
  (repeat (with_reducible refine And.intro ZS ?_))
  refine DW.pcr rfl rfl rfl rfl (letter_c T _) rfl rfl ?_
  try simp only [go_sem, hlb]
  (repeat (with_reducible refine And.intro ZS ?_))
  refine DW.skipc rfl rfl ?_
  try simp only [go_sem, hlb]
  (repeat (with_reducible refine And.intro ZS ?_))
  refine DW.skipc rfl rfl ?_
  try simp only [go_sem, hlb]
  (repeat (with_reducible refine And.intro ZS ?_))
  refine Zm 4110 ?_
  refine Zc (fun hc4 => ?_) fun hc4 => ?_
  ·
   have hw : wdB ((s.drop k).headD 0) = true := by rw [hd_at, wdB, hlb]; first | rfl | (simpa using hc4)
   refine Zp 3 ?_
   refine AWp.ret ?_
   try simp only [thenQ, blkQ]
   apply endW_r [] [] [b] [] (by (try simp only [go_sem, hlb]) <;> rfl)
   · exact ⟨0, 3, k, numS_3 hm hw, by omega, rfl, by first | rfl | (simp only [go_sem, hlb]; done)⟩
   · simp [LeA, LeD, LeL]
  exact absurd hc4 (by first | (simp; done) | omega | (simp [*]; done))
 refine Zx ?_
 try simp only [go_sem]
 (repeat (with_reducible refine And.intro ZS ?_))
 refine DW.pcr rfl rfl rfl rfl (atoi_hi T hE _ hD hD0 hDl hv) rfl rfl ?_
 try simp only [go_sem]
 (repeat (with_reducible refine And.intro ZS ?_))
 refine Zm 13 ?_
 refine Zp 15 ?_
 refine Zs ?_
 refine Zx ?_
 try simp only [go_sem]
 (repeat (with_reducible refine And.intro ZS ?_))
 refine DW.acp [b] [] rfl rfl rfl rfl (by (try simp only [go_sem]) <;> rfl) rfl (cnext_c T b s k F L (by omega) hs) ?_
 rintro _ _ ⟨rfl, rfl⟩
 try simp only [go_sem]
 (repeat (with_reducible refine And.intro ZS ?_))
 refine AWp.block ?_
 refine Zs ?_
 refine Zp 111 ?_
 simp only [go_sem]
 apply Za (z := (_ || _)) 31 17
 ·
  refine AWp.cond _ rfl (fun hc0 => ?_) fun hc0 => ?_
  rotate_left
  ·
   refine Zr (thenQ_n ?_)
   refine Zf 31 32 (.e ⟨EqS.bo (or_f hc0 rfl), ⟨rfl⟩⟩)
  refine AWp.skip (thenQ_n ?_)
  refine Zf 31 32 (.e ⟨EqS.bo (or_t hc0), ⟨rfl⟩⟩)
 simp only [go_sem]
 refine Zc (fun hc1 => ?_) fun hc1 => ?_
 ·
  have hm := nM_10 hc1
  rw [← hk0] at hm
  have hkl : k < s.length := get_lt (by omega)
  refine Zp 15 ?_
  refine Zr (blkQ_n (thenQ_n ?_))
  refine Zm 15 ?_
  refine Zs ?_
  rcases hlb : letB (s.getD (k + 1) 0) with _ | _
  ·
   refine AWp.rsG 5 fun K_ hK_ => ?_
   simp only [List.take_succ_cons, List.take_zero, List.drop_succ_cons, List.drop_zero]
   try simp only [go_sem, hlb]
   (repeat (with_reducible refine And.intro ZS ?_))
   refine DW.acp [b] [] rfl rfl rfl rfl (by (try simp only [go_sem, hlb]) <;> rfl) rfl (cnext_c T b s (k + 1) F L (by omega) hs) ?_
   rintro _ _ ⟨rfl, rfl⟩
   try simp only [go_sem, hlb]
   (repeat (with_reducible refine And.intro ZS ?_))
   refine DW.pcr rfl rfl rfl rfl (letter_c T _) rfl rfl ?_
   try simp only [go_sem, hlb]
   (repeat (with_reducible refine And.intro ZS ?_))
   refine LV.gcall rfl rfl (by first | rfl | (simp only [go_sem, hlb]; done) | (simp only [go_sem, hlb]; rfl)) rfl rfl (by rfl) (LeH.refl _) (by first | rfl | (simp only [go_sem, hlb]; done) | (simp only [go_sem, hlb]; rfl)) (cnext_c T b s (k + 1) F L (by omega) hs) ?_
   rintro _ _ ⟨rfl, rfl⟩
   refine LV.leH (LeH.refl _) (LV.lvc ?_)
   try simp only [go_sem, hlb]
   (repeat (with_reducible refine And.intro ZS ?_))
   refine DW.pcgr rfl rfl rfl rfl rfl (fun hg => digit_c T _) (fun hg => by (try simp only [go_sem, hlb]) <;> first | exact hg | (exfalso; simp at hg; done) | (simpa using hg) | grind) rfl rfl ?_
   try simp only [go_sem, hlb]
   (repeat (with_reducible refine And.intro ZS ?_))
   refine hK_ _ _ ?_
   refine Zm 2062 ?_
   refine Zc (fun hc4 => ?_) fun hc4 => ?_
   ·
    have hw : wdB ((s.drop (k + 1)).headD 0) = true := by rw [hd_at, wdB, hlb]; first | rfl | (simpa using hc4)
    refine Zp 3 ?_
    refine AWp.ret ?_
    try simp only [thenQ, blkQ]
    apply endW_r [] [] [b] [] (by (try simp only [go_sem, hlb]) <;> rfl)
    · exact ⟨0, 3, (k + 1), numS_3 hm hw, by omega, rfl, by first | rfl | (simp only [go_sem, hlb]; done)⟩
    · simp [LeA, LeD, LeL]
   have hw : wdB ((s.drop (k + 1)).headD 0) = false := by rw [hd_at, wdB, hlb]; simpa using hc4
   refine Zk ?_
   refine Zs ?_
   refine Zp 2053 ?_
   refine Zc (fun hc5 => ?_) fun hc5 => ?_
   ·
    refine Zp 3 ?_
    refine AWp.ret ?_
    try simp only [thenQ, blkQ]
    apply endW_r [] [] [b] [] (by (try simp only [go_sem, hlb]) <;> rfl)
    · exact ⟨0, 6, (k + 1), numS_6 hm hw (by simp only [limN]; first | omega | (simp; omega)), by omega, rfl, by first | rfl | (simp only [go_sem, hlb]; done)⟩
    · simp [LeA, LeD, LeL]
   exact absurd hc5 (by first | (simp; done) | omega | (simp [*]; done))
  refine Zx ?_
  try simp only [go_sem, hlb]
  (repeat (with_reducible refine And.intro ZS ?_))
  refine DW.acp [b] [] rfl rfl rfl rfl (by (try simp only [go_sem, hlb]) <;> rfl) rfl (cnext_c T b s (k + 1) F L (by omega) hs) ?_
  rintro _ _ ⟨rfl, rfl⟩
  try simp only [go_sem, hlb]
  (repeat (with_reducible refine And.intro ZS ?_))
  refine DW.pcr rfl rfl rfl rfl (letter_c T _) rfl rfl ?_
  try simp only [go_sem, hlb]
  (repeat (with_reducible refine And.intro ZS ?_))
  refine DW.skipc rfl rfl ?_
  try simp only [go_sem, hlb]
  (repeat (with_reducible refine And.intro ZS ?_))
  refine DW.skipc rfl rfl ?_
  try simp only [go_sem, hlb]
  (repeat (with_reducible refine And.intro ZS ?_))
  refine Zm 2062 ?_
  refine Zc (fun hc4 => ?_) fun hc4 => ?_
  ·
   have hw : wdB ((s.drop (k + 1)).headD 0) = true := by rw [hd_at, wdB, hlb]; first | rfl | (simpa using hc4)
   refine Zp 3 ?_
   refine AWp.ret ?_
   try simp only [thenQ, blkQ]
   apply endW_r [] [] [b] [] (by (try simp only [go_sem, hlb]) <;> rfl)
   · exact ⟨0, 3, (k + 1), numS_3 hm hw, by omega, rfl, by first | rfl | (simp only [go_sem, hlb]; done)⟩
   · simp [LeA, LeD, LeL]
  exact absurd hc4 (by first | (simp; done) | omega | (simp [*]; done))
 refine Zs ?_
 refine Zp 95 ?_
 simp only [go_sem]
 apply Za (z := (_ || _)) 15 27
 ·
  refine AWp.cond _ rfl (fun hc2 => ?_) fun hc2 => ?_
  rotate_left
  ·
   refine Zr (thenQ_n ?_)
   refine Zf 15 32 (.e ⟨EqS.bo (or_f hc2 rfl), ⟨rfl⟩⟩)
  refine AWp.skip (thenQ_n ?_)
  refine Zf 15 32 (.e ⟨EqS.bo (or_t hc2), ⟨rfl⟩⟩)
 simp only [go_sem]
 refine Zc (fun hc3 => ?_) fun hc3 => ?_
 ·
  have hm := nM_20 (by omega) hc3
  rw [← hk0] at hm
  have hkl : k < s.length := get_lt (by omega)
  refine Zp 15 ?_
  refine Zr (blkQ_n (thenQ_n ?_))
  refine Zm 15 ?_
  refine Zs ?_
  rcases hlb : letB (s.getD (k + 1) 0) with _ | _
  ·
   refine AWp.rsG 5 fun K_ hK_ => ?_
   simp only [List.take_succ_cons, List.take_zero, List.drop_succ_cons, List.drop_zero]
   try simp only [go_sem, hlb]
   (repeat (with_reducible refine And.intro ZS ?_))
   refine DW.acp [b] [] rfl rfl rfl rfl (by (try simp only [go_sem, hlb]) <;> rfl) rfl (cnext_c T b s (k + 1) F L (by omega) hs) ?_
   rintro _ _ ⟨rfl, rfl⟩
   try simp only [go_sem, hlb]
   (repeat (with_reducible refine And.intro ZS ?_))
   refine DW.pcr rfl rfl rfl rfl (letter_c T _) rfl rfl ?_
   try simp only [go_sem, hlb]
   (repeat (with_reducible refine And.intro ZS ?_))
   refine LV.gcall rfl rfl (by first | rfl | (simp only [go_sem, hlb]; done) | (simp only [go_sem, hlb]; rfl)) rfl rfl (by rfl) (LeH.refl _) (by first | rfl | (simp only [go_sem, hlb]; done) | (simp only [go_sem, hlb]; rfl)) (cnext_c T b s (k + 1) F L (by omega) hs) ?_
   rintro _ _ ⟨rfl, rfl⟩
   refine LV.leH (LeH.refl _) (LV.lvc ?_)
   try simp only [go_sem, hlb]
   (repeat (with_reducible refine And.intro ZS ?_))
   refine DW.pcgr rfl rfl rfl rfl rfl (fun hg => digit_c T _) (fun hg => by (try simp only [go_sem, hlb]) <;> first | exact hg | (exfalso; simp at hg; done) | (simpa using hg) | grind) rfl rfl ?_
   try simp only [go_sem, hlb]
   (repeat (with_reducible refine And.intro ZS ?_))
   refine hK_ _ _ ?_
   refine Zm 2062 ?_
   refine Zc (fun hc4 => ?_) fun hc4 => ?_
   ·
    have hw : wdB ((s.drop (k + 1)).headD 0) = true := by rw [hd_at, wdB, hlb]; first | rfl | (simpa using hc4)
    refine Zp 3 ?_
    refine AWp.ret ?_
    try simp only [thenQ, blkQ]
    apply endW_r [] [] [b] [] (by (try simp only [go_sem, hlb]) <;> rfl)
    · exact ⟨0, 3, (k + 1), numS_3 hm hw, by omega, rfl, by first | rfl | (simp only [go_sem, hlb]; done)⟩
    · simp [LeA, LeD, LeL]
   have hw : wdB ((s.drop (k + 1)).headD 0) = false := by rw [hd_at, wdB, hlb]; simpa using hc4
   refine Zk ?_
   refine Zs ?_
   refine Zp 2053 ?_
   refine Zc (fun hc5 => ?_) fun hc5 => ?_
   ·
    refine Zp 3 ?_
    refine AWp.ret ?_
    try simp only [thenQ, blkQ]
    apply endW_r [] [] [b] [] (by (try simp only [go_sem, hlb]) <;> rfl)
    · exact ⟨0, 6, (k + 1), numS_6 hm hw (by simp only [limN]; first | omega | (simp; omega)), by omega, rfl, by first | rfl | (simp only [go_sem, hlb]; done)⟩
    · simp [LeA, LeD, LeL]
   exact absurd hc5 (by first | (simp; done) | omega | (simp [*]; done))
  refine Zx ?_
  try simp only [go_sem, hlb]
  (repeat (with_reducible refine And.intro ZS ?_))
  refine DW.acp [b] [] rfl rfl rfl rfl (by (try simp only [go_sem, hlb]) <;> rfl) rfl (cnext_c T b s (k + 1) F L (by omega) hs) ?_
  rintro _ _ ⟨rfl, rfl⟩
  try simp only [go_sem, hlb]
  (repeat (with_reducible refine And.intro ZS ?_))
  refine DW.pcr rfl rfl rfl rfl (letter_c T _) rfl rfl ?_
  try simp only [go_sem, hlb]
  (repeat (with_reducible refine And.intro ZS ?_))
  refine DW.skipc rfl rfl ?_
  try simp only [go_sem, hlb]
  (repeat (with_reducible refine And.intro ZS ?_))
  refine DW.skipc rfl rfl ?_
  try simp only [go_sem, hlb]
  (repeat (with_reducible refine And.intro ZS ?_))
  refine Zm 2062 ?_
  refine Zc (fun hc4 => ?_) fun hc4 => ?_
  ·
   have hw : wdB ((s.drop (k + 1)).headD 0) = true := by rw [hd_at, wdB, hlb]; first | rfl | (simpa using hc4)
   refine Zp 3 ?_
   refine AWp.ret ?_
   try simp only [thenQ, blkQ]
   apply endW_r [] [] [b] [] (by (try simp only [go_sem, hlb]) <;> rfl)
   · exact ⟨0, 3, (k + 1), numS_3 hm hw, by omega, rfl, by first | rfl | (simp only [go_sem, hlb]; done)⟩
   · simp [LeA, LeD, LeL]
  exact absurd hc4 (by first | (simp; done) | omega | (simp [*]; done))
 have hm := nM_0 (s := s) (k := k) (by omega) (by omega)
 replace hm : numM ((s.drop i).dropWhile digB) = (0, s.drop k) := by rw [hk0]; exact hm
 refine AWp.skip (blkQ_n (thenQ_n ?_))
 refine Zs ?_
 rcases hlb : letB (s.getD k 0) with _ | _
 ·
  refine AWp.rsG 5 fun K_ hK_ => ?_
  simp only [List.take_succ_cons, List.take_zero, List.drop_succ_cons, List.drop_zero]
  try simp only [go_sem, hlb]
  (repeat (with_reducible refine And.intro ZS ?_))
  refine DW.acp [b] [] rfl rfl rfl rfl (by (try simp only [go_sem, hlb]) <;> rfl) rfl (cnext_c T b s k F L (by omega) hs) ?_
  rintro _ _ ⟨rfl, rfl⟩
  try simp only [go_sem, hlb]
  (repeat (with_reducible refine And.intro ZS ?_))
  refine DW.pcr rfl rfl rfl rfl (letter_c T _) rfl rfl ?_
  try simp only [go_sem, hlb]
  (repeat (with_reducible refine And.intro ZS ?_))
  refine LV.gcall rfl rfl (by first | rfl | (simp only [go_sem, hlb]; done) | (simp only [go_sem, hlb]; rfl)) rfl rfl (by rfl) (LeH.refl _) (by first | rfl | (simp only [go_sem, hlb]; done) | (simp only [go_sem, hlb]; rfl)) (cnext_c T b s k F L (by omega) hs) ?_
  rintro _ _ ⟨rfl, rfl⟩
  refine LV.leH (LeH.refl _) (LV.lvc ?_)
  try simp only [go_sem, hlb]
  (repeat (with_reducible refine And.intro ZS ?_))
  refine DW.pcgr rfl rfl rfl rfl rfl (fun hg => digit_c T _) (fun hg => by (try simp only [go_sem, hlb]) <;> first | exact hg | (exfalso; simp at hg; done) | (simpa using hg) | grind) rfl rfl ?_
  try simp only [go_sem, hlb]
  (repeat (with_reducible refine And.intro ZS ?_))
  refine hK_ _ _ ?_
  refine Zm 4110 ?_
  refine Zc (fun hc4 => ?_) fun hc4 => ?_
  ·
   have hw : wdB ((s.drop k).headD 0) = true := by rw [hd_at, wdB, hlb]; first | rfl | (simpa using hc4)
   refine Zp 3 ?_
   refine AWp.ret ?_
   try simp only [thenQ, blkQ]
   apply endW_r [] [] [b] [] (by (try simp only [go_sem, hlb]) <;> rfl)
   · exact ⟨0, 3, k, numS_3 hm hw, by omega, rfl, by first | rfl | (simp only [go_sem, hlb]; done)⟩
   · simp [LeA, LeD, LeL]
  have hw : wdB ((s.drop k).headD 0) = false := by rw [hd_at, wdB, hlb]; simpa using hc4
  refine Zk ?_
  refine Zs ?_
  refine Zp 2053 ?_
  refine Zc (fun hc5 => ?_) fun hc5 => ?_
  ·
   refine Zp 3 ?_
   refine AWp.ret ?_
   try simp only [thenQ, blkQ]
   apply endW_r [] [] [b] [] (by (try simp only [go_sem, hlb]) <;> rfl)
   · exact ⟨0, 6, k, numS_6 hm hw (by simp only [limN]; first | omega | (simp; omega)), by omega, rfl, by first | rfl | (simp only [go_sem, hlb]; done)⟩
   · simp [LeA, LeD, LeL]
  exact absurd hc5 (by first | (simp; done) | omega | (simp [*]; done))
 refine Zx ?_
 try simp only [go_sem, hlb]
 (repeat (with_reducible refine And.intro ZS ?_))
 refine DW.acp [b] [] rfl rfl rfl rfl (by (try simp only [go_sem, hlb]) <;> rfl) rfl (cnext_c T b s k F L (by omega) hs) ?_
 rintro _ _ ⟨rfl, rfl⟩
 try simp only [go_sem, hlb]
 (repeat (with_reducible refine And.intro ZS ?_))
 refine DW.pcr rfl rfl rfl rfl (letter_c T _) rfl rfl ?_
 try simp only [go_sem, hlb]
 (repeat (with_reducible refine And.intro ZS ?_))
 refine DW.skipc rfl rfl ?_
 try simp only [go_sem, hlb]
 (repeat (with_reducible refine And.intro ZS ?_))
 refine DW.skipc rfl rfl ?_
 try simp only [go_sem, hlb]
 (repeat (with_reducible refine And.intro ZS ?_))
 refine Zm 4110 ?_
 refine Zc (fun hc4 => ?_) fun hc4 => ?_
 ·
  have hw : wdB ((s.drop k).headD 0) = true := by rw [hd_at, wdB, hlb]; first | rfl | (simpa using hc4)
  refine Zp 3 ?_
  refine AWp.ret ?_
  try simp only [thenQ, blkQ]
  apply endW_r [] [] [b] [] (by (try simp only [go_sem, hlb]) <;> rfl)
  · exact ⟨0, 3, k, numS_3 hm hw, by omega, rfl, by first | rfl | (simp only [go_sem, hlb]; done)⟩
  · simp [LeA, LeD, LeL]
 exact absurd hc4 (by first | (simp; done) | omega | (simp [*]; done))
end Go.Proofs.YtlfocommkkkgdaaDoor

namespace Go.Proofs.YtlfocommkkkgdaaDoor
set_option linter.unusedSimpArgs false
set_option linter.unusedVariables false
theorem iB_mem : ∀ (l : Tx) (c : UInt8), -1 ≤ Lib.indexByte l c ∧ (0 ≤ Lib.indexByte l c ↔ c ∈ l)
  | [], c => by simp [Lib.indexByte]
  | x :: l, c => by
    obtain ⟨h1, h2⟩ := iB_mem l c
    unfold Lib.indexByte
    rw [List.mem_cons]
    split
    · rename_i h
      have : c = x := by simpa using (beq_iff_eq.1 h).symm
      simp [this]
    · rename_i h
      have hne : ¬ c = x := fun e => h (by rw [e]; simp)
      split
      · rename_i h3
        have h3 : Lib.indexByte l c = -1 := by simpa using h3
        simp only [hne, false_or, ← h2]
        omega
      · rename_i h3
        have h3 : ¬ Lib.indexByte l c = -1 := by simpa using h3
        simp only [hne, false_or, ← h2]
        omega
theorem mk_mem (c : UInt8) : c ∈ ([123, 125, 40, 41, 91, 93, 59, 44] : Tx) ↔ mkB c = true := by
  constructor
  · intro h
    simp only [List.mem_cons, List.not_mem_nil, or_false] at h
    rcases h with rfl | rfl | rfl | rfl | rfl | rfl | rfl | rfl <;> decide
  · intro h
    simp only [mkB, Bool.or_eq_true, decide_eq_true_eq] at h
    rcases h with ((((((h | h) | h) | h) | h) | h) | h) | h
    · rw [u8_is (n := 123) h (by decide)]; decide
    · rw [u8_is (n := 125) h (by decide)]; decide
    · rw [u8_is (n := 40) h (by decide)]; decide
    · rw [u8_is (n := 41) h (by decide)]; decide
    · rw [u8_is (n := 91) h (by decide)]; decide
    · rw [u8_is (n := 93) h (by decide)]; decide
    · rw [u8_is (n := 59) h (by decide)]; decide
    · rw [u8_is (n := 44) h (by decide)]; decide
theorem mk_ix (c : UInt8) : 0 ≤ Lib.indexByte [123, 125, 40, 41, 91, 93, 59, 44] c ↔ mkB c = true := (iB_mem _ c).2.trans (mk_mem c)
def zTk : Tk := ⟨0, [], 0⟩
/-- a token at a text's head: it, what is wrong, what stands behind it -/
def tokS (l : Tx) : Tk × Int × Tx :=
  if letB (l.headD 0) = true then (⟨1, l.takeWhile wdB, 0⟩, 0, l.dropWhile wdB)
  else if (l.headD 0).toNat = 58 then (if letB ((l.drop 1).headD 0) = true then (⟨2, (l.drop 1).takeWhile wdB, 0⟩, 0, (l.drop 1).dropWhile wdB) else (zTk, 3, []))
  else if digB (l.headD 0) = true then (if (numS l).2.1 = 0 then (⟨3, [], (numS l).1⟩, 0, (numS l).2.2) else (⟨3, [], 0⟩, (numS l).2.1, []))
  else if (l.headD 0).toNat = 34 then (match quoT (l.drop 1) with
    | none => (zTk, 4, [])
    | some p => (⟨4, p.1, 0⟩, 0, p.2))
  else if mkB (l.headD 0) = true then (⟨5, [l.headD 0], 0⟩, 0, l.drop 1) else (zTk, 3, [])
section
variable {s : Tx} {i : Nat}
theorem tk_w (h : letB (s.getD i 0) = true) : tokS (s.drop i) = (⟨1, (s.drop i).takeWhile wdB, 0⟩, 0, s.drop (i + ((s.drop i).takeWhile wdB).length)) := by rw [tokS, hd_at, if_pos h, dw_at]
theorem tk_t (h : ¬ letB (s.getD i 0) = true) (h1 : (s.getD i 0).toNat = 58) (h2 : letB (s.getD (i + 1) 0) = true) : tokS (s.drop i) = (⟨2, (s.drop (i + 1)).takeWhile wdB, 0⟩, 0, s.drop (i + 1 + ((s.drop (i + 1)).takeWhile wdB).length)) := by rw [tokS, hd_at, if_neg h, if_pos h1, List.drop_drop, hd_at, if_pos h2, dw_at]
theorem tk_t3 (h : ¬ letB (s.getD i 0) = true) (h1 : (s.getD i 0).toNat = 58) (h2 : ¬ letB (s.getD (i + 1) 0) = true) : tokS (s.drop i) = (zTk, 3, []) := by rw [tokS, hd_at, if_neg h, if_pos h1, List.drop_drop, hd_at, if_neg h2]
theorem tk_n (h : ¬ letB (s.getD i 0) = true) (h1 : ¬ (s.getD i 0).toNat = 58) (h2 : digB (s.getD i 0) = true) : tokS (s.drop i) = if (numS (s.drop i)).2.1 = 0 then (⟨3, [], (numS (s.drop i)).1⟩, 0, (numS (s.drop i)).2.2) else (⟨3, [], 0⟩, (numS (s.drop i)).2.1, []) := by rw [tokS, hd_at, if_neg h, if_neg h1, if_pos h2]
theorem tk_q (h : ¬ letB (s.getD i 0) = true) (h1 : ¬ (s.getD i 0).toNat = 58) (h2 : ¬ digB (s.getD i 0) = true) (h3 : (s.getD i 0).toNat = 34) : tokS (s.drop i) = match quoT (s.drop (i + 1)) with
    | none => (zTk, 4, [])
    | some p => (⟨4, p.1, 0⟩, 0, p.2) := by rw [tokS, hd_at, if_neg h, if_neg h1, if_neg h2, if_pos h3, List.drop_drop]
theorem tk_m (h : ¬ letB (s.getD i 0) = true) (h1 : ¬ (s.getD i 0).toNat = 58) (h2 : ¬ digB (s.getD i 0) = true) (h3 : ¬ (s.getD i 0).toNat = 34) (h4 : mkB (s.getD i 0) = true) : tokS (s.drop i) = (⟨5, [s.getD i 0], 0⟩, 0, s.drop (i + 1)) := by rw [tokS, hd_at, if_neg h, if_neg h1, if_neg h2, if_neg h3, if_pos h4, List.drop_drop]
theorem tk_o (h : ¬ letB (s.getD i 0) = true) (h1 : ¬ (s.getD i 0).toNat = 58) (h2 : ¬ digB (s.getD i 0) = true) (h3 : ¬ (s.getD i 0).toNat = 34) (h4 : ¬ mkB (s.getD i 0) = true) : tokS (s.drop i) = (zTk, 3, []) := by rw [tokS, hd_at, if_neg h, if_neg h1, if_neg h2, if_neg h3, if_neg h4]
end
def TkR1 (b : Nat) (s : Tx) (i : Nat) (F : List (Nat × Ob)) (L : List Nat) (x : AR) (h : AH) : Prop :=
  ∃ (t : Tk) (e : Int) (j : Nat), (e = 0 → tokS (s.drop i) = (t, 0, s.drop j)) ∧ (¬ e = 0 → (tokS (s.drop i)).2.1 = e) ∧ j ≤ s.length ∧ x = .ret (.tup [.agg (tkA t), .d (.int .i64 e)]) ∧ h = ⟨(b, ⟨2, 1, [[.d (.str s), .d (.int .i64 ((j : Nat) : Int))]]⟩) :: F, L⟩
theorem nl_n {s : Tx} {i : Nat} (h : letB (s.getD i 0) = false) : ¬ letB (s.getD i 0) = true := by rw [h]; decide
theorem nd_n {s : Tx} {i : Nat} (h : digB (s.getD i 0) = false) : ¬ digB (s.getD i 0) = true := by rw [h]; decide
attribute [local go_sem] icast8 brOne bytesOf_byteRows in
set_option maxRecDepth 20000 in
set_option maxHeartbeats 1000000 in
theorem one_c (T : Tbl) (hE : ErT T) (b : Nat) (s : Tx) (i : Nat) (F : List (Nat × Ob)) (L : List Nat) (hi : i < s.length) (hs : s.length ≤ 1048576) : AC Tryd.prog T 20 [.ptr b 2 0 0] (⟨(b, ⟨2, 1, [[.d (.str s), .d (.int .i64 ((i : Nat) : Int))]]⟩) :: F, L⟩) (TkR1 b s i F L) := by
 refine ⟨Tryd.call20, ACalls.enterS Tryd.func20 rfl Tryd.ntmps20 rfl fun hb => ?_⟩
 simp only [go_sem, Tryd.results20]
 refine Zx ?_
 try simp only [go_sem]
 (repeat (with_reducible refine And.intro ZS ?_))
 intro b2
 first | intro fb2 | have fb2 := True.intro
 try simp only [freshL] at fb2
 try simp only [go_sem, fb2]
 (repeat (with_reducible refine And.intro ZS ?_))
 refine Zs ?_
 refine Zx ?_
 try simp only [go_sem, fb2]
 (repeat (with_reducible refine And.intro ZS ?_))
 refine DW.acp [b] [] rfl rfl rfl rfl (by (try simp only [go_sem, fb2]) <;> rfl) rfl (cnext_c T b s i _ _ (by omega) hs) ?_
 rintro _ _ ⟨rfl, rfl⟩
 try simp only [go_sem, fb2]
 (repeat (with_reducible refine And.intro ZS ?_))
 refine AWp.block ?_
 refine Zx ?_
 try simp only [go_sem, fb2]
 (repeat (with_reducible refine And.intro ZS ?_))
 refine DW.pcr rfl rfl rfl rfl (letter_c T _) rfl rfl ?_
 try simp only [go_sem, fb2]
 (repeat (with_reducible refine And.intro ZS ?_))
 refine Zm 75 ?_
 refine Zc (fun hc0 => ?_) fun hc0 => ?_
 ·
  refine Zx ?_
  try simp only [go_sem, fb2]
  (repeat (with_reducible refine And.intro ZS ?_))
  refine DW.acp [b] [] rfl rfl rfl rfl (by (try simp only [go_sem, fb2]) <;> rfl) rfl (cword_c T b s i _ _ (by omega) hs) ?_
  rintro _ _ ⟨rfl, rfl⟩
  try simp only [go_sem, fb2]
  (repeat (with_reducible refine And.intro ZS ?_))
  refine Zm 6 ?_
  refine AWp.ret ?_
  try simp only [thenQ, blkQ]
  apply endW_r [b2] [] [b] [] (by (try simp only [go_sem, fb2]) <;> rfl)
  · exact ⟨⟨1, _, 0⟩, 0, _, fun _ => tk_w hc0, fun h9 => absurd rfl h9, by have := tw_len wdB s i (by omega); have := tw_len wdB s (i + 1); omega, rfl, by first | rfl | (simp only [go_sem, fb2]; done)⟩
  · simp [LeA, LeD, LeL, tkA, zTk]
 refine Zp 23 ?_
 refine Zc (fun hc1 => ?_) fun hc1 => ?_
 ·
  have hlt : i + 1 ≤ s.length := by omega
  refine Zp 3 ?_
  refine Zs ?_
  refine Zx ?_
  try simp only [go_sem, fb2]
  (repeat (with_reducible refine And.intro ZS ?_))
  refine DW.acp [b] [] rfl rfl rfl rfl (by (try simp only [go_sem, fb2]) <;> rfl) rfl (cnext_c T b s (i + 1) _ _ (by omega) hs) ?_
  rintro _ _ ⟨rfl, rfl⟩
  try simp only [go_sem, fb2]
  (repeat (with_reducible refine And.intro ZS ?_))
  refine DW.pcr rfl rfl rfl rfl (letter_c T _) rfl rfl ?_
  try simp only [go_sem, fb2]
  (repeat (with_reducible refine And.intro ZS ?_))
  refine Zc (fun hc2 => ?_) fun hc2 => ?_
  ·
   refine Zp 6 ?_
   refine AWp.ret ?_
   try simp only [thenQ, blkQ]
   apply endW_r [b2] [] [b] [] (by (try simp only [go_sem, fb2]) <;> rfl)
   · exact ⟨zTk, 3, (i + 1), fun h9 => absurd h9 (by first | decide | exact hc4), fun _ => by rw [tk_t3 (nl_n hc0) (by omega) (by simpa using hc2)], by have := tw_len wdB s i (by omega); have := tw_len wdB s (i + 1); omega, rfl, by first | rfl | (simp only [go_sem, fb2]; done)⟩
   · simp [LeA, LeD, LeL, tkA, zTk]
  refine Zk ?_
  refine Zm 3 ?_
  refine Zx ?_
  try simp only [go_sem, fb2]
  (repeat (with_reducible refine And.intro ZS ?_))
  refine DW.acp [b] [] rfl rfl rfl rfl (by (try simp only [go_sem, fb2]) <;> rfl) rfl (cword_c T b s (i + 1) _ _ (by omega) hs) ?_
  rintro _ _ ⟨rfl, rfl⟩
  try simp only [go_sem, fb2]
  (repeat (with_reducible refine And.intro ZS ?_))
  refine Zm 6 ?_
  refine AWp.ret ?_
  try simp only [thenQ, blkQ]
  apply endW_r [b2] [] [b] [] (by (try simp only [go_sem, fb2]) <;> rfl)
  · exact ⟨⟨2, _, 0⟩, 0, _, fun _ => tk_t (nl_n hc0) (by omega) (by simpa using hc2), fun h9 => absurd rfl h9, by have := tw_len wdB s i (by omega); have := tw_len wdB s (i + 1); omega, rfl, by first | rfl | (simp only [go_sem, fb2]; done)⟩
  · simp [LeA, LeD, LeL, tkA, zTk]
 refine Zx ?_
 try simp only [go_sem, fb2]
 (repeat (with_reducible refine And.intro ZS ?_))
 refine DW.pcr rfl rfl rfl rfl (digit_c T _) rfl rfl ?_
 try simp only [go_sem, fb2]
 (repeat (with_reducible refine And.intro ZS ?_))
 refine Zc (fun hc3 => ?_) fun hc3 => ?_
 ·
  refine Zx ?_
  try simp only [go_sem, fb2]
  (repeat (with_reducible refine And.intro ZS ?_))
  refine DW.acp [b] [] rfl rfl rfl rfl (by (try simp only [go_sem, fb2]) <;> rfl) rfl (cnum_c T hE b s i _ _ (by omega) hs hc3) ?_
  rintro _ _ ⟨nv, ne, nj, n1, n2, rfl, rfl⟩
  try simp only [go_sem, fb2]
  (repeat (with_reducible refine And.intro ZS ?_))
  refine Zm 26 ?_
  refine Zs ?_
  refine Zp 23 ?_
  refine Zc (fun hc4 => ?_) fun hc4 => ?_
  ·
   refine Zp 3 ?_
   refine AWp.ret ?_
   try simp only [thenQ, blkQ]
   apply endW_r [b2] [] [b] [] (by (try simp only [go_sem, fb2]) <;> rfl)
   · exact ⟨zTk, ne, nj, fun h9 => absurd h9 hc4, fun _ => by rw [tk_n (nl_n hc0) (by omega) hc3, n1, if_neg hc4], by have := tw_len wdB s i (by omega); have := tw_len wdB s (i + 1); omega, rfl, by first | rfl | (simp only [go_sem, fb2]; done)⟩
   · simp [LeA, LeD, LeL, tkA, zTk]
  refine Zk ?_
  refine Zp 3 ?_
  refine AWp.ret ?_
  try simp only [thenQ, blkQ]
  apply endW_r [b2] [] [b] [] (by (try simp only [go_sem, fb2]) <;> rfl)
  · exact ⟨⟨3, [], nv⟩, 0, nj, fun _ => by rw [tk_n (nl_n hc0) (by omega) hc3, n1, if_pos (by omega)], fun h9 => absurd rfl h9, by have := tw_len wdB s i (by omega); have := tw_len wdB s (i + 1); omega, rfl, by first | rfl | (simp only [go_sem, fb2]; done)⟩
  · simp [LeA, LeD, LeL, tkA, zTk]
 refine Zp 135 ?_
 refine Zc (fun hc5 => ?_) fun hc5 => ?_
 ·
  rcases hq : quoT (s.drop (i + 1)) with _ | ⟨qt, qr⟩
  ·
   refine Zx ?_
   try simp only [go_sem, fb2]
   (repeat (with_reducible refine And.intro ZS ?_))
   refine DW.acp [b] [] rfl rfl rfl rfl (by (try simp only [go_sem, fb2]) <;> rfl) rfl (ctext_c T b s i _ _ (by omega) hs) ?_
   rintro _ _ (⟨xt, xj, xw, x1, x2, x3, rfl, rfl⟩ | ⟨xj, x1, x2, rfl, rfl⟩)
   · rw [hq] at x1; cases x1
   try simp only [go_sem, fb2]
   (repeat (with_reducible refine And.intro ZS ?_))
   refine Zm 26 ?_
   refine Zs ?_
   refine Zp 19 ?_
   refine Zc (fun hc6 => ?_) fun hc6 => ?_
   ·
    refine Zp 3 ?_
    refine AWp.ret ?_
    try simp only [thenQ, blkQ]
    apply endW_r [b2] [] [b] [] (by (try simp only [go_sem, fb2]) <;> rfl)
    · exact ⟨zTk, 4, xj, fun h9 => absurd h9 (by first | decide | exact hc4), fun _ => by rw [tk_q (nl_n hc0) (by omega) (nd_n hc3) (by omega), hq], by have := tw_len wdB s i (by omega); have := tw_len wdB s (i + 1); omega, rfl, by first | rfl | (simp only [go_sem, fb2]; done)⟩
    · simp [LeA, LeD, LeL, tkA, zTk]
   exact absurd hc6 (by first | (simp; done) | omega | (simp [*]; done))
  refine Zx ?_
  try simp only [go_sem, fb2]
  (repeat (with_reducible refine And.intro ZS ?_))
  refine DW.acp [b] [] rfl rfl rfl rfl (by (try simp only [go_sem, fb2]) <;> rfl) rfl (ctext_c T b s i _ _ (by omega) hs) ?_
  rintro _ _ (⟨xt, xj, xw, x1, x2, x3, rfl, rfl⟩ | ⟨xj, x1, x2, rfl, rfl⟩)
  rotate_left
  · rw [hq] at x1; cases x1
  try simp only [go_sem, fb2]
  (repeat (with_reducible refine And.intro ZS ?_))
  refine Zm 26 ?_
  refine Zs ?_
  refine Zp 19 ?_
  refine Zc (fun hc6 => ?_) fun hc6 => ?_
  ·
   exact absurd hc6 (by first | (simp; done) | omega | (simp [*]; done))
  refine Zk ?_
  refine Zp 3 ?_
  refine AWp.ret ?_
  try simp only [thenQ, blkQ]
  apply endW_r [b2] [] [b] [] (by (try simp only [go_sem, fb2]) <;> rfl)
  · exact ⟨⟨4, xt, 0⟩, 0, xj, fun _ => by rw [tk_q (nl_n hc0) (by omega) (nd_n hc3) (by omega), x1], fun h9 => absurd rfl h9, by have := tw_len wdB s i (by omega); have := tw_len wdB s (i + 1); omega, rfl, by first | rfl | (simp only [go_sem, fb2]; done)⟩
  · simp [LeA, LeD, LeL, tkA, zTk]
 refine Zx ?_
 try simp only [go_sem, fb2]
 (repeat (with_reducible refine And.intro ZS ?_))
 refine DW.pcr rfl rfl rfl rfl (IndexByte_p T _ _) rfl rfl ?_
 try simp only [go_sem, fb2]
 (repeat (with_reducible refine And.intro ZS ?_))
 refine Zm 23 ?_
 refine Zc (fun hc7 => ?_) fun hc7 => ?_
 ·
  have hmk := (mk_ix _).1 hc7
  refine Zp 6 ?_
  refine Zp 3 ?_
  refine AWp.ret ?_
  try simp only [thenQ, blkQ]
  apply endW_r [b2] [] [b] [] (by (try simp only [go_sem, fb2]) <;> rfl)
  · exact ⟨⟨5, [s.getD i 0], 0⟩, 0, (i + 1), fun _ => tk_m (nl_n hc0) (by omega) (nd_n hc3) (by omega) hmk, fun h9 => absurd rfl h9, by have := tw_len wdB s i (by omega); have := tw_len wdB s (i + 1); omega, rfl, by first | rfl | (simp only [go_sem, fb2]; done)⟩
  · simp [LeA, LeD, LeL, tkA, zTk]
 have hmk : ¬ mkB (s.getD i 0) = true := fun h9 => by have := (mk_ix _).2 h9; omega
 refine AWp.skip (blkQ_n (thenQ_n ?_))
 refine Zp 6 ?_
 refine AWp.ret ?_
 try simp only [thenQ, blkQ]
 apply endW_r [b2] [] [b] [] (by (try simp only [go_sem, fb2]) <;> rfl)
 · exact ⟨zTk, 3, i, fun h9 => absurd h9 (by first | decide | exact hc4), fun _ => by rw [tk_o (nl_n hc0) (by omega) (nd_n hc3) (by omega) hmk], by have := tw_len wdB s i (by omega); have := tw_len wdB s (i + 1); omega, rfl, by first | rfl | (simp only [go_sem, fb2]; done)⟩
 · simp [LeA, LeD, LeL, tkA, zTk]
end Go.Proofs.YtlfocommkkkgdaaDoor

namespace Go.Proofs.YtlfocommkkkgdaaDoor
set_option linter.unusedSimpArgs false
set_option linter.unusedVariables false
/-- a script's tokens: they, a place, what is wrong -/
def cutF (s : Tx) : Nat → List Tk → Nat → List Tk × Int × Int
  | 0, _, _ => ([], 0, 0)
  | n + 1, X, i => if okP s i = false then ([], (plS s i : Int), 4) else if plS s i = s.length then (X, 0, 0) else if X.length = 400 then ([], (plS s i : Int), 5)
    else if ¬ (tokS (s.drop (plS s i))).2.1 = 0 then ([], (plS s i : Int), (tokS (s.drop (plS s i))).2.1) else cutF s n (X ++ [(tokS (s.drop (plS s i))).1]) (s.length - (tokS (s.drop (plS s i))).2.2.length)
def cutS (s : Tx) : List Tk × Int × Int := if 2000 < s.length then ([], 0, 1) else cutF s 401 [] 0
section
variable {s : Tx} {X : List Tk} {j k : Nat}
theorem cu_eq (hX : X.length ≤ 400) : cutF s (401 - X.length) X j = if okP s j = false then ([], (plS s j : Int), 4) else if plS s j = s.length then (X, 0, 0) else if X.length = 400 then ([], (plS s j : Int), 5)
    else if ¬ (tokS (s.drop (plS s j))).2.1 = 0 then ([], (plS s j : Int), (tokS (s.drop (plS s j))).2.1) else cutF s (400 - X.length) (X ++ [(tokS (s.drop (plS s j))).1]) (s.length - (tokS (s.drop (plS s j))).2.2.length) := by
  rw [show 401 - X.length = (400 - X.length) + 1 by omega, cutF]
theorem cu_4 (hX : X.length ≤ 400) (p1 : plS s j = k) (p2 : okP s j = false) : cutF s (401 - X.length) X j = ([], (k : Int), 4) := by rw [cu_eq hX, if_pos p2, p1]
theorem cu_0 (hX : X.length ≤ 400) (p1 : plS s j = k) (p2 : okP s j = true) (h : k = s.length) : cutF s (401 - X.length) X j = (X, 0, 0) := by rw [cu_eq hX, if_neg (by rw [p2]; decide), if_pos (p1.trans h)]
theorem cu_5 (hX : X.length ≤ 400) (p1 : plS s j = k) (p2 : okP s j = true) (h : ¬ k = s.length) (h2 : X.length = 400) : cutF s (401 - X.length) X j = ([], (k : Int), 5) := by rw [cu_eq hX, if_neg (by rw [p2]; decide), if_neg (by omega), if_pos h2, p1]
theorem cu_e (hX : X.length ≤ 400) (p1 : plS s j = k) (p2 : okP s j = true) (h : ¬ k = s.length) (h2 : ¬ X.length = 400) {e : Int} (he : ¬ e = 0) (ht : (tokS (s.drop k)).2.1 = e) : cutF s (401 - X.length) X j = ([], (k : Int), e) := by rw [cu_eq hX, if_neg (by rw [p2]; decide), if_neg (by omega), if_neg h2, p1, ht, if_pos he]
theorem cu_s (hX : X.length ≤ 400) (p1 : plS s j = k) (p2 : okP s j = true) (h : ¬ k = s.length) (h2 : ¬ X.length = 400) {t : Tk} {q : Nat} (ht : tokS (s.drop k) = (t, 0, s.drop q)) (hq : q ≤ s.length) : cutF s (401 - X.length) X j = cutF s (401 - (X ++ [t]).length) (X ++ [t]) q := by
  rw [cu_eq hX, if_neg (by rw [p2]; decide), if_neg (by omega), if_neg h2, p1, ht, if_neg (by simp)]
  rw [show s.length - (s.drop q).length = q by simp; omega, List.length_append, show 401 - (X.length + [t].length) = 400 - X.length by simp only [List.length_cons, List.length_nil]; omega]
end
theorem tkRows (X : List Tk) (t : Tk) : tksD X ++ [tkD t] = tksD (X ++ [t]) := by simp [tksD]
attribute [local go_sem] icast8 tkA tkD tkRows in
set_option maxRecDepth 4000 in
set_option maxHeartbeats 2000000 in
theorem Cut_c (T : Tbl) (hL : LibT T) (hE : ErT T) (s : Tx) : PC Tryd.prog T 9 [.d (.str s)] (.tup [.d (.slc 3 (tksD (cutS s).1)), .d (.int .i64 (cutS s).2.1), .d (.int .i64 (cutS s).2.2)]) := by
 refine ⟨Tryd.call9, PCall.enterS Tryd.func9 rfl Tryd.ntmps9 rfl fun hb => ?_⟩
 simp only [go_sem, Tryd.results9]
 refine Zp 1 ?_
 refine Zs ?_
 refine Zp 9 ?_
 refine Zc (fun hc0 => ?_) fun hc0 => ?_
 ·
  refine Zp 14 ?_
  refine AWp.ret ?_
  try simp only [go_sem]
  rw [cutS, if_pos (by omega)]; simp [LeA, LeD, LeL, tksD]
 have hs : s.length ≤ 1048576 := by omega
 refine Zk ?_
 refine Zp 3 ?_
 refine Zx ?_
 try simp only [go_sem]
 (repeat (with_reducible refine And.intro ZS ?_))
 intro b6
 first | intro fb6 | have fb6 := True.intro
 try simp only [freshL] at fb6
 try simp only [go_sem, fb6]
 (repeat (with_reducible refine And.intro ZS ?_))
 refine AWp.block ?_
 refine Zm 7 ?_
 simp only [go_sem]
 refine AWp.ownNilS 5 3 rfl rfl (by decide) fun w0 fw0 => ?_
 try simp only [freshT] at fw0
 simp only [go_sem]
 refine Zl 5 2 (fun n lc hc => ∃ (j w : Nat) (X : List Tk), n = 401 - X.length ∧ EqS lc [(5, .own w 3 (tksD X))] ∧ EqS hc (⟨[(b6, ⟨2, 1, [[.d (.str s), .d (.int .i64 ((j : Nat) : Int))]]⟩)], [w]⟩) ∧ (j ≤ s.length) ∧ (X.length ≤ 400) ∧ (cutF s (401 - X.length) X j = cutF s 401 [] 0)) ?_ ?_
 · refine ⟨_, 0, w0, [], rfl, ZE, ZE, ?_, ?_, ?_⟩
   all_goals (first | omega | rfl | (simp; done))
 rintro _ _ _ ⟨j, w, X, rfl, ⟨rfl⟩, ⟨rfl⟩, h1, h2, h3⟩
 simp only [go_sem]
 refine AWp.block ?_
 refine Zs ?_
 refine Zx ?_
 try simp only [go_sem, fb6, fw0]
 (repeat (with_reducible refine And.intro ZS ?_))
 refine DW.acp [b6] [] rfl rfl rfl rfl (by (try simp only [go_sem, fb6, fw0]) <;> rfl) rfl (cskip_c T hL b6 s j _ _ h1 hs) ?_
 rintro _ _ ⟨k, ok, e1, l1, l2, rfl, rfl⟩
 obtain ⟨p1, p2⟩ := sil_at l2 e1
 try simp only [go_sem, fb6, fw0]
 (repeat (with_reducible refine And.intro ZS ?_))
 refine Zc (fun hc1 => ?_) fun hc1 => ?_
 ·
  subst hc1
  refine Zd true [0, 1, 2, 3, 4, 5, 6] ?_
  try simp only [go_sem, fb6, fw0]
  (repeat (with_reducible refine And.intro ZS ?_))
  refine Zm 14 ?_
  refine AWp.ret ?_
  try simp only [go_sem, fb6, fw0]
  rw [cutS, if_neg (by omega), ← h3, cu_4 h2 p1 p2]; simp [LeA, LeD, LeL, tksD]
 have hok : ok = true := by simpa using hc1
 subst hok
 refine Zk ?_
 refine Zs ?_
 refine Zp 4103 ?_
 refine Zc (fun hc2 => ?_) fun hc2 => ?_
 ·
  refine Zp 14 ?_
  refine AWp.ret ?_
  try simp only [go_sem, fb6, fw0]
  rw [cutS, if_neg (by omega), ← h3, cu_0 h2 p1 p2 (by omega)]; simp [LeA, LeD, LeL, tksD]
 refine Zk ?_
 refine Zp 15 ?_
 refine Zs ?_
 refine Zp 79 ?_
 refine Zc (fun hc3 => ?_) fun hc3 => ?_
 ·
  refine Zp 14 ?_
  refine AWp.ret ?_
  try simp only [go_sem, fb6, fw0]
  rw [cutS, if_neg (by omega), ← h3, cu_5 h2 p1 p2 (by omega) (by omega)]; simp [LeA, LeD, LeL, tksD]
 refine Zk ?_
 refine Zx ?_
 try simp only [go_sem, fb6, fw0]
 (repeat (with_reducible refine And.intro ZS ?_))
 refine DW.acp [b6] [] rfl rfl rfl rfl (by (try simp only [go_sem, fb6, fw0]) <;> rfl) rfl (one_c T hE b6 s k _ _ (by omega) hs) ?_
 rintro _ _ ⟨tt, te, q, u1, u2, u3, rfl, rfl⟩
 try simp only [go_sem, fb6, fw0]
 (repeat (with_reducible refine And.intro ZS ?_))
 intro b8
 first | intro fb8 | have fb8 := True.intro
 try simp only [freshL] at fb8
 try simp only [go_sem, fb6, fw0, fb8]
 (repeat (with_reducible refine And.intro ZS ?_))
 refine Zm 63 ?_
 refine Zs ?_
 refine Zp 191 ?_
 refine Zc (fun hc4 => ?_) fun hc4 => ?_
 ·
  refine Zp 14 ?_
  refine AWp.ret ?_
  try simp only [go_sem, fb6, fw0, fb8]
  rw [cutS, if_neg (by omega), ← h3, cu_e h2 p1 p2 (by omega) (by omega) hc4 (u2 hc4)]; simp [LeA, LeD, LeL, tksD]
 refine Zk ?_
 refine Zq fun K_ k_ => ?_
 try simp only [go_sem, fb6, fw0, fb8]
 (repeat (with_reducible refine And.intro ZS ?_))
 refine DW.app rfl rfl rfl rfl (show slI Tryd.prog 28 = some (54, 3, 32) by simp only [go_sem]) rfl rfl (by simp only [go_sem, fb6, fw0, fb8]) (by first | exact .inl rfl | exact .inr rfl) (by simp only [go_sem, List.length_cons, List.length_nil]; omega) (by simp only [go_sem, List.length_cons, List.length_nil]; omega) fun t1 ft1 => ?_
 try simp only [freshT] at ft1
 try simp only [go_sem, fb6, fw0, fb8, ft1]
 (repeat (with_reducible refine And.intro ZS ?_))
 refine k_ _ _ (blkQ_n (thenQ_n ?_))
 refine Ze 5 2 [b8] [] [b6] [t1] (.e ⟨_, ?_, q, t1, X ++ [tt], rfl, ?_, ZE, ?_, ?_, ?_⟩)
 · first | omega | (simp; omega) | (simp; omega)
 · (try simp only [go_sem, fb6, fw0, fb8, ft1]) <;> first | exact ⟨rfl⟩ | (constructor; simp [tksD, tkD]; done)
 · omega
 · simp; omega
 · rw [← h3]; exact (cu_s h2 p1 p2 (by omega) (by omega) (u1 (by omega)) u3).symm
end Go.Proofs.YtlfocommkkkgdaaDoor

namespace Go.Proofs.YtlfocommkkkgdaaDoor
set_option linter.unusedSimpArgs false
set_option linter.unusedVariables false
/-- the reader of a list -/
def qob (b : Nat) (s : Tx) (i : Nat) : Nat × Ob := (b, ⟨2, 1, [[.d (.str s), .d (.int .i64 i)]]⟩)
attribute [go_sem] qob
end Go.Proofs.YtlfocommkkkgdaaDoor

namespace Go.Proofs.YtlfocommkkkgdaaDoor
set_option linter.unusedSimpArgs false
set_option linter.unusedVariables false
end Go.Proofs.YtlfocommkkkgdaaDoor

namespace Go.Proofs.YtlfocommkkkgdaaDoor
set_option linter.unusedSimpArgs false
set_option linter.unusedVariables false
/-- an entry of a book -/
structure Ent where
  kind : Int
  box : Tx
  uid : Int
  flags : Int
  dest : Tx
  text : Tx
def entA (x : Ent) : List AV := [.d (.int .i64 x.kind), .d (.str x.box), .d (.int .i64 x.uid), .d (.int .i64 x.flags), .d (.str x.dest), .d (.str x.text)]
attribute [go_sem] entA
@[go_sem] theorem wrap8 (c : UInt8) : IntKind.i64.wrap (c.toNat : Int) = c.toNat := inR_wrap (by have := c.toNat_lt; simp only [inR]; omega)
set_option maxRecDepth 4000 in
set_option maxHeartbeats 1000000 in
theorem In_c (T : Tbl) (n lo hi : Int) : PC Tryd.prog T 70 [.d (.int .i64 n), .d (.int .i64 lo), .d (.int .i64 hi)] (.d (.bool (decide (lo ≤ n) && decide (n ≤ hi)))) := by
 refine ⟨Tryd.call70, PCall.enterS Tryd.func70 rfl Tryd.ntmps70 rfl fun hb => ?_⟩
 simp only [go_sem, Tryd.results70]
 refine Zp 7 ?_
 refine Zp 8 ?_
 refine AWp.ret ?_
 simp only [go_sem]
 try simp [LeA, LeD]
end Go.Proofs.YtlfocommkkkgdaaDoor

namespace Go.Proofs.YtlfocommkkkgdaaDoor
set_option linter.unusedSimpArgs false
set_option linter.unusedVariables false
set_option maxRecDepth 4000 in
set_option maxHeartbeats 1000000 in
theorem rlet_c (T : Tbl) (c : UInt8) : PC Tryd.prog T 51 [.d (.int .u8 (c.toNat : Int))] (.d (.bool (letB c))) := by
 refine ⟨Tryd.call51, PCall.enterS Tryd.func51 rfl Tryd.ntmps51 rfl fun hb => ?_⟩
 simp only [go_sem, Tryd.results51]
 refine Zp 1 ?_
 refine Zx ?_
 try simp only [go_sem]
 (repeat (with_reducible refine And.intro ZS ?_))
 refine DW.pcr rfl rfl rfl rfl (In_c T _ _ _) rfl rfl ?_
 try simp only [go_sem]
 (repeat (with_reducible refine And.intro ZS ?_))
 refine DW.pcgr rfl rfl rfl rfl rfl (fun hg => In_c T _ _ _) (fun hg => by (try simp only [go_sem]) <;> first | exact hg | (exfalso; simp at hg; done) | (simpa using hg) | grind) rfl rfl ?_
 try simp only [go_sem]
 (repeat (with_reducible refine And.intro ZS ?_))
 refine Zm 2 ?_
 refine AWp.ret ?_
 try simp only [go_sem]
 try simp [LeA, LeD, letB]
set_option maxRecDepth 4000 in
set_option maxHeartbeats 1000000 in
theorem rdig_c (T : Tbl) (c : UInt8) : PC Tryd.prog T 53 [.d (.int .u8 (c.toNat : Int))] (.d (.bool (digB c))) := by
 refine ⟨Tryd.call53, PCall.enterS Tryd.func53 rfl Tryd.ntmps53 rfl fun hb => ?_⟩
 simp only [go_sem, Tryd.results53]
 refine Zp 1 ?_
 refine Zx ?_
 try simp only [go_sem]
 (repeat (with_reducible refine And.intro ZS ?_))
 refine DW.pcr rfl rfl rfl rfl (In_c T _ _ _) rfl rfl ?_
 try simp only [go_sem]
 (repeat (with_reducible refine And.intro ZS ?_))
 refine Zm 2 ?_
 refine AWp.ret ?_
 try simp only [go_sem]
 try simp [LeA, LeD, digB]
set_option maxRecDepth 4000 in
set_option maxHeartbeats 1000000 in
theorem rmark_c (T : Tbl) (c : UInt8) : PC Tryd.prog T 56 [.d (.int .u8 (c.toNat : Int))] (.d (.bool (mkB c))) := by
 refine ⟨Tryd.call56, PCall.enterS Tryd.func56 rfl Tryd.ntmps56 rfl fun hb => ?_⟩
 simp only [go_sem, Tryd.results56]
 refine Zp 1 ?_
 refine Zp 2 ?_
 refine AWp.ret ?_
 try simp only [go_sem]
 try simp [LeA, LeD, mkB]
set_option maxRecDepth 4000 in
set_option maxHeartbeats 1000000 in
theorem rat_c (T : Tbl) (s : Tx) (i : Nat) : PC Tryd.prog T 50 [.d (.str s), .d (.int .i64 (i : Nat))] (.d (.int .u8 ((s.getD i 0).toNat : Int))) := by
 refine ⟨Tryd.call50, PCall.enterS Tryd.func50 rfl Tryd.ntmps50 rfl fun hb => ?_⟩
 simp only [go_sem, Tryd.results50]
 refine Zp 3 ?_
 refine Zs ?_
 refine Zp 35 ?_
 refine Zc (fun hc0 => ?_) fun hc0 => ?_
 ·
  have hlt : i < s.length := by omega
  refine Zp 4 ?_
  refine AWp.ret ?_
  try simp only [go_sem]
  try simp [LeA, LeD]
 have hg := get_nil (s := s) (i := i) (by omega)
 rw [hg]
 refine Zk ?_
 refine Zp 4 ?_
 refine AWp.ret ?_
 try simp only [go_sem]
 try simp [LeA, LeD]
attribute [local go_sem] icast8 decide_true decide_false in
set_option maxRecDepth 4000 in
set_option maxHeartbeats 1000000 in
theorem wordEnd_c (T : Tbl) (s : Tx) (i : Nat) (hs : s.length ≤ 1048576) (hi : i ≤ s.length) : PC Tryd.prog T 52 [.d (.str s), .d (.int .i64 (i : Nat))] (.d (.int .i64 ((i + ((s.drop i).takeWhile wdB).length : Nat) : Int))) := by
 refine ⟨Tryd.call52, PCall.enterS Tryd.func52 rfl Tryd.ntmps52 rfl fun hb => ?_⟩
 simp only [go_sem, Tryd.results52]
 refine Zp 3 ?_
 refine Zs ?_
 refine AWp.block ?_
 simp only [go_sem]
 refine Zl 1 2 (fun n lc hc => ∃ (j : Nat), n = s.length - j ∧ EqS lc [(1, .d (.int .i64 (j : Nat)))] ∧ EqS hc (⟨[], []⟩) ∧ (i ≤ j) ∧ (j ≤ s.length) ∧ (TwI wdB s i j)) ?_ ?_
 · refine ⟨_, i, rfl, ZE, ZE, ?_, ?_, ?_⟩
   all_goals (first | omega | exact TwI.z _ _ _)
 rintro _ _ _ ⟨j, rfl, ⟨rfl⟩, ⟨rfl⟩, h1, h2, h3⟩
 simp only [go_sem]
 refine Zs ?_
 rcases Nat.lt_or_ge j s.length with hlt | hlt
 ·
  have hki : ((j : Int) < (s.length : Int)) = True := by simp; omega
  refine Zx ?_
  try simp only [go_sem, hki]
  (repeat (with_reducible refine And.intro ZS ?_))
  refine DW.pcgr rfl rfl rfl rfl rfl (fun hg => rlet_c T _) (fun hg => by (try simp only [go_sem, hki]) <;> first | exact hg | (exfalso; simp at hg; done) | (simpa using hg) | grind) rfl rfl ?_
  try simp only [go_sem, hki]
  (repeat (with_reducible refine And.intro ZS ?_))
  refine DW.pcgr rfl rfl rfl rfl rfl (fun hg => rdig_c T _) (fun hg => by (try simp only [go_sem, hki]) <;> first | exact hg | (exfalso; simp at hg; done) | (simpa using hg) | grind) rfl rfl ?_
  try simp only [go_sem, hki]
  (repeat (with_reducible refine And.intro ZS ?_))
  refine Zm 131075 ?_
  refine Zc (fun hc0 => ?_) fun hc0 => ?_
  ·
   have hsb : wdB (s.getD j 0) = true := by simpa [wdB] using hc0
   refine Zk ?_
   refine AWp.block ?_
   refine Zr (blkQ_n (thenQ_n ?_))
   refine Zf 1 2 (.e ⟨_, ZM, j + 1, rfl, ZE, ZE, ?_, ?_, ?_⟩)
   · omega
   · omega
   · exact h3.s h1 hlt hsb
  obtain ⟨e1, e2⟩ := h3.e h1 h2 (fun h9 => by have h8 := h9.2; simp [wdB] at h8 hc0; grind)
  refine AWp.exit (thenQ_e (thenQ_e (blkQ_e (thenQ_n ?_))))
  refine Zp 4 ?_
  refine AWp.ret ?_
  try simp only [go_sem, hki]
  rw [e2, show i + (j - i) = j by omega]; try simp [LeA, LeD]
 have hki : ((j : Int) < (s.length : Int)) = False := by simp; omega
 refine Zx ?_
 try simp only [go_sem, hki]
 (repeat (with_reducible refine And.intro ZS ?_))
 refine DW.pcgr rfl rfl rfl rfl rfl (fun hg => rlet_c T _) (fun hg => by (try simp only [go_sem, hki]) <;> first | exact hg | (exfalso; simp at hg; done) | (simpa using hg) | grind) rfl rfl ?_
 try simp only [go_sem, hki]
 (repeat (with_reducible refine And.intro ZS ?_))
 refine DW.pcgr rfl rfl rfl rfl rfl (fun hg => rdig_c T _) (fun hg => by (try simp only [go_sem, hki]) <;> first | exact hg | (exfalso; simp at hg; done) | (simpa using hg) | grind) rfl rfl ?_
 try simp only [go_sem, hki]
 (repeat (with_reducible refine And.intro ZS ?_))
 refine Zm 131075 ?_
 refine Zc (fun hc0 => ?_) fun hc0 => ?_
 ·
  exact absurd hc0 (by first | (simp; done) | omega | (simp [*]; done))
 obtain ⟨e1, e2⟩ := h3.e h1 h2 (fun h9 => by omega)
 refine AWp.exit (thenQ_e (thenQ_e (blkQ_e (thenQ_n ?_))))
 refine Zp 4 ?_
 refine AWp.ret ?_
 try simp only [go_sem, hki]
 rw [e2, show i + (j - i) = j by omega]; try simp [LeA, LeD]
end Go.Proofs.YtlfocommkkkgdaaDoor

namespace Go.Proofs.YtlfocommkkkgdaaDoor
set_option linter.unusedSimpArgs false
set_option linter.unusedVariables false
theorem bl_at {s : Tx} {j : Nat} (h : j < s.length) (hb : blB (s.getD j 0) = true) : sil 0 [] (s.drop j) = sil 0 [] (s.drop (j + 1)) := by rw [getD_at h, sil_bl hb]
theorem sk_tok2 {s : Tx} {j : Nat} (hj : j < s.length) (hb : blB (s.getD j 0) = false) (h1 : ¬ ((s.getD j 0).toNat : Int) = 35) (h2 : ¬ ((s.getD j 0).toNat : Int) = 47 ∨ ¬ ((s.getD (j + 1) 0).toNat : Int) = 42) : sil 0 [] (s.drop j) = (s.drop j, true) := by
  have e := getD_at hj
  rw [e]
  refine sil_tok hb (fun h9 => h1 (by rw [h9]; rfl)) fun ⟨h8, h9⟩ => ?_
  rcases h2 with h2 | h2
  · exact h2 (by rw [h8]; rfl)
  · rcases Nat.lt_or_ge (j + 1) s.length with h7 | h7
    · rw [getD_at h7] at h9
      simp at h9
      exact h2 (by simp only [List.getD_eq_getElem?_getD, h9]; rfl)
    · rw [List.drop_eq_nil_of_le h7] at h9; cases h9
theorem com_at {s : Tx} {j : Nat} (h1 : ((s.getD j 0).toNat : Int) = 47) (h2 : ((s.getD (j + 1) 0).toNat : Int) = 42) : j + 1 < s.length ∧ sil 0 [] (s.drop j) = sil 2 (s.drop j) (s.drop (j + 2)) := by
  obtain ⟨l1, e1⟩ := head_at (n := 47) h1 (by decide) (by decide)
  obtain ⟨l2, e2⟩ := head_at (n := 42) h2 (by decide) (by decide)
  refine ⟨l2, ?_⟩
  rw [e1, e2]
  exact sil_com
theorem hash_at {s : Tx} {j : Nat} (h : ((s.getD j 0).toNat : Int) = 35) : j < s.length ∧ sil 0 [] ((s.drop j).dropWhile nlB) = sil 0 [] (s.drop j) := by
  obtain ⟨l1, e1⟩ := head_at (n := 35) h (by decide) (by decide)
  exact ⟨l1, by rw [e1]; exact sil_hash.symm⟩
theorem nl_step {s : Tx} {q : Nat} (h : q < s.length) (hc : ¬ ((s.getD q 0).toNat : Int) = 10) : (s.drop q).dropWhile nlB = (s.drop (q + 1)).dropWhile nlB := by
  rw [getD_at h, List.dropWhile_cons_of_pos (by simp only [nlB, hc, decide_false]; rfl)]
theorem nl_end {s : Tx} {q : Nat} (h : ¬ (q < s.length ∧ ¬ ((s.getD q 0).toNat : Int) = 10)) : (s.drop q).dropWhile nlB = s.drop q := by
  rcases Nat.lt_or_ge q s.length with h9 | h9
  · have hc : ((s.getD q 0).toNat : Int) = 10 := Classical.byContradiction fun h8 => h ⟨h9, h8⟩
    rw [getD_at h9, List.dropWhile_cons_of_neg (by simp only [nlB, hc, decide_true]; decide)]
  · rw [List.drop_eq_nil_of_le h9]; rfl
theorem nl_far {s : Tx} {j q : Nat} (h1 : j ≤ q) (hj : j < s.length) (hc : ((s.getD j 0).toNat : Int) = 35) (hqe : ¬ (q < s.length ∧ ¬ ((s.getD q 0).toNat : Int) = 10)) : j < q := by
  rcases Nat.lt_or_ge j q with h | h
  · exact h
  · obtain rfl : q = j := by omega
    exact absurd ⟨hj, by omega⟩ hqe
theorem c_step {s st : Tx} {e : Nat} (h : e + 1 < s.length) (hc : ¬ ((s.getD e 0).toNat : Int) = 42 ∨ ¬ ((s.getD (e + 1) 0).toNat : Int) = 47) : sil 2 st (s.drop e) = sil 2 st (s.drop (e + 1)) := by
  rw [getD_at (by omega : e < s.length), sil]
  intro r e1 e2
  rw [getD_at h] at e2
  injection e2 with e2 e3
  rcases hc with hc | hc
  · exact hc (by rw [e1]; rfl)
  · exact hc (by rw [e2]; rfl)
theorem c_out {s st : Tx} {e : Nat} (h : s.length ≤ e + 1) : sil 2 st (s.drop e) = (st, false) := by
  rcases Nat.lt_or_ge e s.length with h9 | h9
  · rw [getD_at h9, List.drop_eq_nil_of_le h, sil2_ix]
    simp [Lib.index, List.isPrefixOf]
  · rw [List.drop_eq_nil_of_le h9, sil2_ix]; rfl
theorem c_hit {s st : Tx} {e : Nat} (h1 : ((s.getD e 0).toNat : Int) = 42) (h2 : ((s.getD (e + 1) 0).toNat : Int) = 47) : sil 2 st (s.drop e) = sil 0 [] (s.drop (e + 2)) := by
  obtain ⟨l1, e1⟩ := head_at (n := 42) h1 (by decide) (by decide)
  obtain ⟨l2, e2⟩ := head_at (n := 47) h2 (by decide) (by decide)
  rw [e1, e2]
  show sil 2 st (42 :: 47 :: s.drop (e + 1 + 1)) = _
  rw [sil]
theorem dv_snoc (l : Tx) (c : UInt8) : dcV (l ++ [c]) = dcV l * 10 + (c.toNat - 48) := by simp [dcV, dvF]
theorem tk_snoc {s : Tx} {i j : Nat} (hij : i ≤ j) (hj : j < s.length) : (s.drop i).take (j + 1 - i) = (s.drop i).take (j - i) ++ [s.getD j 0] := by
  rw [show j + 1 - i = (j - i) + 1 by omega, List.take_succ_eq_append_getElem (by simp; omega)]
  simp [show i + (j - i) = j by omega, List.getD, hj]
theorem tw_take {s : Tx} {i j : Nat} (hij : i ≤ j) (hj : j ≤ s.length) : (s.take j).drop i = (s.drop i).take (j - i) := by rw [List.drop_take]
theorem pl_at {s : Tx} {j : Nat} (h : j ≤ s.length) : s.length - (s.drop j).length = j := by simp; omega
attribute [local go_sem] icast8 decide_true decide_false in
set_option maxRecDepth 4000 in
set_option maxHeartbeats 2000000 in
theorem silent_c (T : Tbl) (s : Tx) (i : Nat) (hs : s.length ≤ 1048576) (hi : i ≤ s.length) : PC Tryd.prog T 21 [.d (.str s), .d (.int .i64 (i : Nat))] (.tup [.d (.int .i64 ((plS s i : Nat) : Int)), .d (.bool (okP s i))]) := by
 refine ⟨Tryd.call21, PCall.enterS Tryd.func21 rfl Tryd.ntmps21 rfl fun hb => ?_⟩
 simp only [go_sem, Tryd.results21]
 refine Zp 3 ?_
 refine Zs ?_
 refine AWp.block ?_
 simp only [go_sem]
 refine Zl 1 2 (fun n lc hc => ∃ (j : Nat), n = s.length - j ∧ EqS lc [(1, .d (.int .i64 (j : Nat)))] ∧ EqS hc (⟨[], []⟩) ∧ (i ≤ j) ∧ (j ≤ s.length) ∧ (sil 0 [] (s.drop j) = sil 0 [] (s.drop i))) ?_ ?_
 · refine ⟨_, i, rfl, ZE, ZE, ?_, ?_, ?_⟩
   all_goals (first | omega | rfl)
 rintro _ _ _ ⟨j, rfl, ⟨rfl⟩, ⟨rfl⟩, h1, h2, h3⟩
 simp only [go_sem]
 refine Zs ?_
 refine Zp 35 ?_
 refine Zc (fun hc0 => ?_) fun hc0 => ?_
 ·
  have hlt : j < s.length := by omega
  have hki : (j : Int) < (s.length : Int) := by omega
  refine Zk ?_
  refine AWp.block ?_
  refine Zp 7 ?_
  refine Zs ?_
  refine Zp 65543 ?_
  refine Zc (fun hc1 => ?_) fun hc1 => ?_
  ·
   have hbl : blB (s.getD j 0) = true := by simp only [blB, Bool.or_eq_true, decide_eq_true_eq]; omega
   refine Zp 3 ?_
   refine AWp.exit (thenQ_e (blkQ_e (thenQ_n ?_)))
   refine Zf 1 2 (.e ⟨_, ?_, (j + 1), rfl, ZE, ZE, ?_, ?_, ?_⟩)
   · first | omega | (simp; omega) | (omega)
   · omega
   · omega
   · rw [← bl_at hlt hbl, h3]
  have hbl : blB (s.getD j 0) = false := by simp only [blB, Bool.or_eq_false_iff, decide_eq_false_iff_not]; omega
  refine Zk ?_
  refine Zs ?_
  refine Zp 39 ?_
  refine Zc (fun hc2 => ?_) fun hc2 => ?_
  ·
   obtain ⟨_, hh⟩ := hash_at hc2
   refine Zs ?_
   refine AWp.block ?_
   refine Zm 3 ?_
   simp only [go_sem]
   refine Zl 1 2 (fun n lc hc => ∃ (q : Nat), n = s.length - q ∧ EqS lc [(1, .d (.int .i64 (q : Nat)))] ∧ EqS hc (⟨[], []⟩) ∧ (j ≤ q) ∧ (q ≤ s.length) ∧ (sil 0 [] ((s.drop q).dropWhile nlB) = sil 0 [] (s.drop i))) ?_ ?_
   · refine ⟨_, j, rfl, ZE, ZE, ?_, ?_, ?_⟩
     all_goals (first | omega | exact hh.trans h3)
   rintro _ _ _ ⟨q, rfl, ⟨rfl⟩, ⟨rfl⟩, g1, g2, g3⟩
   simp only [go_sem]
   refine Zs ?_
   rcases Nat.lt_or_ge q s.length with hq | hq
   ·
    have hkq : ((q : Int) < (s.length : Int)) = True := by simp; omega
    refine Zp 2051 ?_
    refine Zc (fun hc3 => ?_) fun hc3 => ?_
    ·
     have hqc : ¬ ((s.getD q 0).toNat : Int) = 10 := by first | exact hc3 | exact hc3.2 | omega
     refine Zk ?_
     refine AWp.block ?_
     refine Zr (blkQ_n (thenQ_n ?_))
     refine Zf 1 2 (.e ⟨_, ZM, q + 1, rfl, ZE, ZE, ?_, ?_, ?_⟩)
     · omega
     · omega
     · rw [← nl_step hq hqc]; exact g3
    have hqe : ¬ (q < s.length ∧ ¬ ((s.getD q 0).toNat : Int) = 10) := fun h9 => h9.2 (by first | exact hc3 | omega)
    have hqj := nl_far g1 hlt hc2 hqe
    rw [nl_end hqe] at g3
    refine AWp.exit (thenQ_e (thenQ_e (blkQ_e (thenQ_n ?_))))
    refine AWp.exit (thenQ_e (blkQ_e (thenQ_n ?_)))
    refine Zf 1 2 (.e ⟨_, ?_, q, rfl, ZE, ZE, ?_, ?_, ?_⟩)
    · first | omega | (simp; omega) | (omega)
    · omega
    · omega
    · exact g3
   have hkq : ((q : Int) < (s.length : Int)) = False := by simp; omega
   refine Zp 2051 ?_
   refine Zc (fun hc3 => ?_) fun hc3 => ?_
   ·
    exact absurd hc3 (by first | (simp; done) | omega | (simp [*]; done))
   have hqj : j < q := by omega
   rw [nl_end (fun h9 => by omega)] at g3
   refine AWp.exit (thenQ_e (thenQ_e (blkQ_e (thenQ_n ?_))))
   refine AWp.exit (thenQ_e (blkQ_e (thenQ_n ?_)))
   refine Zf 1 2 (.e ⟨_, ?_, q, rfl, ZE, ZE, ?_, ?_, ?_⟩)
   · first | omega | (simp; omega) | (omega)
   · omega
   · omega
   · exact g3
  refine Zk ?_
  refine Zs ?_
  refine Zx ?_
  try simp only [go_sem, hki]
  (repeat (with_reducible refine And.intro ZS ?_))
  refine DW.pcgr rfl rfl rfl rfl rfl (fun hg => rat_c T _ _) (fun hg => by (try simp only [go_sem, hki]) <;> first | exact hg | (exfalso; simp at hg; done) | (simpa using hg) | grind) rfl rfl ?_
  try simp only [go_sem, hki]
  (repeat (with_reducible refine And.intro ZS ?_))
  refine Zm 4099 ?_
  refine Zc (fun hc4 => ?_) fun hc4 => ?_
  ·
   have htk := sk_tok2 hlt hbl hc2 (by omega)
   obtain ⟨p1, p2⟩ := sil_at h2 (h3.symm.trans htk)
   refine Zp 12 ?_
   refine AWp.ret ?_
   try simp only [go_sem, hki]
   rw [p1, p2]; try simp [LeA, LeD, LeL]
  obtain ⟨l1, hcm⟩ := com_at (s := s) (j := j) (by omega) (by omega)
  refine Zk ?_
  refine Zp 7 ?_
  refine Zs ?_
  refine AWp.block ?_
  simp only [go_sem]
  refine Zl 3 4 (fun n lc hc => ∃ (e : Nat), n = s.length - e ∧ EqS lc [(7, .d (.int .i64 (e : Nat)))] ∧ EqS hc (⟨[], []⟩) ∧ (j + 2 ≤ e) ∧ (e ≤ s.length) ∧ (sil 2 (s.drop j) (s.drop e) = sil 0 [] (s.drop i))) ?_ ?_
  · refine ⟨_, (j + 2), rfl, ZE, ZE, ?_, ?_, ?_⟩
    all_goals (first | omega | exact hcm.symm.trans h3)
  rintro _ _ _ ⟨e, rfl, ⟨rfl⟩, ⟨rfl⟩, g1, g2, g3⟩
  simp only [go_sem]
  refine Zs ?_
  rcases Nat.lt_or_ge (e + 1) s.length with he | he
  ·
   have hke : (((e + 1 : Nat) : Int) < (s.length : Int)) = True := by simp; omega
   have hke1 : ((e : Int) < (s.length : Int)) = True := by simp; omega
   refine Zp 1048583 ?_
   refine Zc (fun hc5 => ?_) fun hc5 => ?_
   ·
    have hec : ¬ ((s.getD e 0).toNat : Int) = 42 ∨ ¬ ((s.getD (e + 1) 0).toNat : Int) = 47 := by first | exact hc5 | exact hc5.2 | omega | grind
    refine Zk ?_
    refine AWp.block ?_
    refine Zr (blkQ_n (thenQ_n ?_))
    refine Zf 3 4 (.e ⟨_, ZM, e + 1, rfl, ZE, ZE, ?_, ?_, ?_⟩)
    · omega
    · omega
    · rw [← c_step he hec]; exact g3
   refine AWp.exit (thenQ_e (thenQ_e (blkQ_e (thenQ_n ?_))))
   refine Zs ?_
   refine Zp 263 ?_
   refine Zc (fun hc6 => ?_) fun hc6 => ?_
   ·
    rw [c_out (by omega)] at g3
    obtain ⟨p1, p2⟩ := sil_at h2 g3.symm
    refine Zp 12 ?_
    refine AWp.ret ?_
    try simp only [go_sem, hki, hke, hke1]
    rw [p1, p2]; try simp [LeA, LeD, LeL]
   have hce : ((s.getD e 0).toNat : Int) = 42 ∧ ((s.getD (e + 1) 0).toNat : Int) = 47 := by first | exact hc5 | omega | grind
   rw [c_hit hce.1 hce.2] at g3
   refine Zk ?_
   refine Zr (blkQ_n (thenQ_n ?_))
   refine Zf 1 2 (.e ⟨_, ?_, (e + 2), rfl, ZE, ZE, ?_, ?_, ?_⟩)
   · first | omega | (simp; omega) | (omega)
   · omega
   · omega
   · exact g3
  have hke : (((e + 1 : Nat) : Int) < (s.length : Int)) = False := by simp; omega
  refine Zp 1048583 ?_
  refine Zc (fun hc5 => ?_) fun hc5 => ?_
  ·
   exact absurd hc5 (by first | (simp; done) | omega | (simp [*]; done))
  refine AWp.exit (thenQ_e (thenQ_e (blkQ_e (thenQ_n ?_))))
  refine Zs ?_
  refine Zp 263 ?_
  refine Zc (fun hc6 => ?_) fun hc6 => ?_
  ·
   rw [c_out (by omega)] at g3
   obtain ⟨p1, p2⟩ := sil_at h2 g3.symm
   refine Zp 12 ?_
   refine AWp.ret ?_
   try simp only [go_sem, hki, hke]
   rw [p1, p2]; try simp [LeA, LeD, LeL]
  exact absurd hc6 (by first | (simp; done) | omega | (simp [*]; done))
 have hnl : sil 0 [] (s.drop j) = (s.drop j, true) := by rw [List.drop_eq_nil_of_le (by omega)]; exact sil_nil
 obtain ⟨p1, p2⟩ := sil_at h2 (h3.symm.trans hnl)
 refine AWp.exit (thenQ_e (thenQ_e (blkQ_e (thenQ_n ?_))))
 refine Zp 12 ?_
 refine AWp.ret ?_
 try simp only [go_sem]
 rw [p1, p2]; try simp [LeA, LeD, LeL]
end Go.Proofs.YtlfocommkkkgdaaDoor

namespace Go.Proofs.YtlfocommkkkgdaaDoor
set_option linter.unusedSimpArgs false
set_option linter.unusedVariables false
theorem wd_at {s : Tx} {j : Nat} {x : Bool} (h : wdB (s.getD j 0) = x) : wdB ((s.drop j).headD 0) = x := by rw [hd_at]; exact h
theorem dig_48 {c : UInt8} (h : digB c = true) : 48 ≤ (c.toNat : Int) ∧ (c.toNat : Int) ≤ 57 := by simpa [digB] using h
attribute [local go_sem] icast8 decide_true decide_false in
set_option maxRecDepth 4000 in
set_option maxHeartbeats 4000000 in
theorem numAt_c (T : Tbl) (s : Tx) (i : Nat) (hs : s.length ≤ 1048576) (hi : i < s.length) : PC Tryd.prog T 54 [.d (.str s), .d (.int .i64 (i : Nat))] (.tup [.d (.int .i64 (numS (s.drop i)).1), .d (.int .i64 ((s.length - (numS (s.drop i)).2.2.length : Nat) : Int)), .d (.int .i64 (numS (s.drop i)).2.1)]) := by
 refine ⟨Tryd.call54, PCall.enterS Tryd.func54 rfl Tryd.ntmps54 rfl fun hb => ?_⟩
 simp only [go_sem, Tryd.results54]
 refine Zp 3 ?_
 refine Zp 7 ?_
 refine Zp 15 ?_
 refine Zs ?_
 refine AWp.block ?_
 simp only [go_sem]
 refine Zl 1 14 (fun n lc hc => ∃ (j v : Nat) (bg : Bool), n = s.length - j ∧ EqS lc [(1, .d (.int .i64 (j : Nat))), (7, .d (.int .i64 (v : Nat))), (8, .d (.bool bg))] ∧ EqS hc (⟨[], []⟩) ∧ (i ≤ j) ∧ (j ≤ s.length) ∧ (TwI digB s i j) ∧ (v ≤ 2147483647) ∧ (bg = false → v = dcV ((s.drop i).take (j - i))) ∧ (bg = true → 2147483647 < dcV ((s.drop i).take (j - i)))) ?_ ?_
 · refine ⟨_, i, 0, false, rfl, ZE, ZE, ?_, ?_, ?_, ?_, ?_, ?_⟩
   all_goals (first | omega | exact TwI.z _ _ _ | (intro _; simp; done) | (intro _; simp [dcV, dvF]; done) | (intro h; cases h))
 rintro _ _ _ ⟨j, v, bg, rfl, ⟨rfl⟩, ⟨rfl⟩, h1, h2, h3, h4, h5, h6⟩
 simp only [go_sem]
 refine Zs ?_
 rcases Nat.lt_or_ge j s.length with hlt | hlt
 ·
  have hki : ((j : Int) < (s.length : Int)) = True := by simp; omega
  refine Zx ?_
  try simp only [go_sem, hki]
  (repeat (with_reducible refine And.intro ZS ?_))
  refine DW.pcgr rfl rfl rfl rfl rfl (fun hg => rdig_c T _) (fun hg => by (try simp only [go_sem, hki]) <;> first | exact hg | (exfalso; simp at hg; done) | (simpa using hg) | grind) rfl rfl ?_
  try simp only [go_sem, hki]
  (repeat (with_reducible refine And.intro ZS ?_))
  refine Zm 8207 ?_
  refine Zc (fun hc0 => ?_) fun hc0 => ?_
  ·
   have hdg : digB (s.getD j 0) = true := by first | exact hc0 | exact hc0.2
   obtain ⟨d1, d2⟩ := dig_48 hdg
   obtain ⟨v2, hv2⟩ : ∃ v2 : Nat, v2 = v * 10 + ((s.getD j 0).toNat - 48) := ⟨_, rfl⟩
   have hv3 : 10 * (v : Int) + (((s.getD j 0).toNat : Int) - 48) = ((v2 : Nat) : Int) := by omega
   have hwr : IntKind.i64.wrap (((s.getD j 0).toNat : Int) - 48) = ((s.getD j 0).toNat : Int) - 48 := inR_wrap ⟨by omega, by omega⟩
   refine Zk ?_
   refine AWp.block ?_
   refine Zp 15 ?_
   refine Zs ?_
   refine Zp 47 ?_
   refine Zc (fun hc1 => ?_) fun hc1 => ?_
   ·
    refine Zp 11 ?_
    refine Zr (thenQ_n ?_)
    refine Zr (blkQ_n (thenQ_n ?_))
    refine Zf 1 14 (.e ⟨_, ZM, j + 1, 0, true, rfl, ZE, ZE, ?_, ?_, ?_, ?_, ?_, ?_⟩)
    · omega
    · omega
    · exact h3.s h1 hlt hdg
    · omega
    · intro hb9; rw [tk_snoc h1 hlt, dv_snoc]; cases hb9
    · intro hb9; rw [tk_snoc h1 hlt, dv_snoc]; cases hbb : bg with | false => have := h5 hbb; omega | true => have := h6 hbb; omega
   refine Zk ?_
   refine Zr (blkQ_n (thenQ_n ?_))
   refine Zf 1 14 (.e ⟨_, ZM, j + 1, v2, bg, rfl, ZE, ZE, ?_, ?_, ?_, ?_, ?_, ?_⟩)
   · omega
   · omega
   · exact h3.s h1 hlt hdg
   · omega
   · intro hb9; rw [tk_snoc h1 hlt, dv_snoc]; have := h5 hb9; omega
   · intro hb9; rw [tk_snoc h1 hlt, dv_snoc]; have := h6 hb9; omega
  obtain ⟨e1, e2⟩ := h3.e h1 h2 (fun h9 => by have h8 := h9.2; rw [hc0] at h8; cases h8)
  rw [tw_take h1 h2] at e1
  rw [← e1] at h5 h6
  have hk0 := dw_at digB s i
  rw [e2, show i + (j - i) = j by omega] at hk0
  clear e1 e2
  refine AWp.exit (thenQ_e (thenQ_e (blkQ_e (thenQ_n ?_))))
  refine Zp 31 ?_
  refine Zs ?_
  refine Zx ?_
  try simp only [go_sem, hki]
  (repeat (with_reducible refine And.intro ZS ?_))
  refine DW.pcr rfl rfl rfl rfl (rat_c T _ _) rfl rfl ?_
  try simp only [go_sem, hki]
  (repeat (with_reducible refine And.intro ZS ?_))
  refine DW.pcgr rfl rfl rfl rfl rfl (fun hg => rat_c T _ _) (fun hg => by (try simp only [go_sem, hki]) <;> first | exact hg | (exfalso; simp at hg; done) | (simpa using hg) | grind) rfl rfl ?_
  try simp only [go_sem, hki]
  (repeat (with_reducible refine And.intro ZS ?_))
  refine Zm 16415 ?_
  refine Zc (fun hc2 => ?_) fun hc2 => ?_
  ·
   have hm := nM_10 (s := s) (k := j) (by omega)
   rw [← hk0] at hm
   have hkl : j < s.length := get_lt (by omega)
   refine Zp 31 ?_
   refine Zr (thenQ_n ?_)
   refine Zs ?_
   refine Zx ?_
   try simp only [go_sem, hki]
   (repeat (with_reducible refine And.intro ZS ?_))
   refine DW.pcr rfl rfl rfl rfl (rat_c T _ _) rfl rfl ?_
   try simp only [go_sem, hki]
   (repeat (with_reducible refine And.intro ZS ?_))
   refine DW.pcr rfl rfl rfl rfl (rlet_c T _) rfl rfl ?_
   try simp only [go_sem, hki]
   (repeat (with_reducible refine And.intro ZS ?_))
   refine DW.pcgr rfl rfl rfl rfl rfl (fun hg => rat_c T _ _) (fun hg => by (try simp only [go_sem, hki]) <;> first | exact hg | (exfalso; simp at hg; done) | (simpa using hg) | grind) rfl rfl ?_
   try simp only [go_sem, hki]
   (repeat (with_reducible refine And.intro ZS ?_))
   refine DW.pcgr rfl rfl rfl rfl rfl (fun hg => rdig_c T _) (fun hg => by (try simp only [go_sem, hki]) <;> first | exact hg | (exfalso; simp at hg; done) | (simpa using hg) | grind) rfl rfl ?_
   try simp only [go_sem, hki]
   (repeat (with_reducible refine And.intro ZS ?_))
   refine Zm 65566 ?_
   refine Zc (fun hc4 => ?_) fun hc4 => ?_
   ·
    have hw : wdB (s.getD (j + 1) 0) = true := by first | exact hc4 | (simp only [wdB, Bool.or_eq_true]; exact hc4)
    refine Zp 14 ?_
    refine AWp.ret ?_
    try simp only [go_sem, hki]
    rw [numS_3 hm (wd_at hw), pl_at (by omega)]; try simp [LeA, LeD, LeL, mulN]
   have hw : wdB (s.getD (j + 1) 0) = false := by first | exact hc4 | (simp only [wdB, Bool.or_eq_false_iff]; exact hc4)
   refine Zk ?_
   refine Zs ?_
   cases bg
   ·
    replace h5 := (h5 rfl).symm
    clear h6
    refine Zp 2059 ?_
    refine Zc (fun hc5 => ?_) fun hc5 => ?_
    ·
     have hx : limN 10 < dcV ((s.drop i).takeWhile digB) := by simp only [limN]; first | omega | (simp; omega)
     refine Zp 14 ?_
     refine AWp.ret ?_
     try simp only [go_sem, hki]
     rw [numS_6 hm (wd_at hw) hx, pl_at (by omega)]; try simp [LeA, LeD, LeL, mulN]
    have hx : ¬ limN 10 < dcV ((s.drop i).takeWhile digB) := by simp only [limN]; first | omega | (simp; omega)
    refine Zk ?_
    refine Zp 14 ?_
    refine AWp.ret ?_
    try simp only [go_sem, hki]
    rw [numS_0 hm (wd_at hw) hx, pl_at (by omega), h5]; simp [LeA, LeD, LeL, mulN]
   replace h6 := h6 rfl
   clear h5
   refine Zp 2059 ?_
   refine Zc (fun hc5 => ?_) fun hc5 => ?_
   ·
    have hx : limN 10 < dcV ((s.drop i).takeWhile digB) := by simp only [limN]; first | omega | (simp; omega)
    refine Zp 14 ?_
    refine AWp.ret ?_
    try simp only [go_sem, hki]
    rw [numS_6 hm (wd_at hw) hx, pl_at (by omega)]; try simp [LeA, LeD, LeL, mulN]
   exact absurd hc5 (by first | (simp; done) | omega | (simp [*]; done))
  refine Zx ?_
  try simp only [go_sem, hki]
  (repeat (with_reducible refine And.intro ZS ?_))
  refine DW.pcr rfl rfl rfl rfl (rat_c T _ _) rfl rfl ?_
  try simp only [go_sem, hki]
  (repeat (with_reducible refine And.intro ZS ?_))
  refine DW.pcgr rfl rfl rfl rfl rfl (fun hg => rat_c T _ _) (fun hg => by (try simp only [go_sem, hki]) <;> first | exact hg | (exfalso; simp at hg; done) | (simpa using hg) | grind) rfl rfl ?_
  try simp only [go_sem, hki]
  (repeat (with_reducible refine And.intro ZS ?_))
  refine Zm 32799 ?_
  refine Zc (fun hc3 => ?_) fun hc3 => ?_
  ·
   have hm := nM_20 (s := s) (k := j) (by omega) (by omega)
   rw [← hk0] at hm
   have hkl : j < s.length := get_lt (by omega)
   refine Zp 31 ?_
   refine Zr (thenQ_n ?_)
   refine Zs ?_
   refine Zx ?_
   try simp only [go_sem, hki]
   (repeat (with_reducible refine And.intro ZS ?_))
   refine DW.pcr rfl rfl rfl rfl (rat_c T _ _) rfl rfl ?_
   try simp only [go_sem, hki]
   (repeat (with_reducible refine And.intro ZS ?_))
   refine DW.pcr rfl rfl rfl rfl (rlet_c T _) rfl rfl ?_
   try simp only [go_sem, hki]
   (repeat (with_reducible refine And.intro ZS ?_))
   refine DW.pcgr rfl rfl rfl rfl rfl (fun hg => rat_c T _ _) (fun hg => by (try simp only [go_sem, hki]) <;> first | exact hg | (exfalso; simp at hg; done) | (simpa using hg) | grind) rfl rfl ?_
   try simp only [go_sem, hki]
   (repeat (with_reducible refine And.intro ZS ?_))
   refine DW.pcgr rfl rfl rfl rfl rfl (fun hg => rdig_c T _) (fun hg => by (try simp only [go_sem, hki]) <;> first | exact hg | (exfalso; simp at hg; done) | (simpa using hg) | grind) rfl rfl ?_
   try simp only [go_sem, hki]
   (repeat (with_reducible refine And.intro ZS ?_))
   refine Zm 65566 ?_
   refine Zc (fun hc4 => ?_) fun hc4 => ?_
   ·
    have hw : wdB (s.getD (j + 1) 0) = true := by first | exact hc4 | (simp only [wdB, Bool.or_eq_true]; exact hc4)
    refine Zp 14 ?_
    refine AWp.ret ?_
    try simp only [go_sem, hki]
    rw [numS_3 hm (wd_at hw), pl_at (by omega)]; try simp [LeA, LeD, LeL, mulN]
   have hw : wdB (s.getD (j + 1) 0) = false := by first | exact hc4 | (simp only [wdB, Bool.or_eq_false_iff]; exact hc4)
   refine Zk ?_
   refine Zs ?_
   cases bg
   ·
    replace h5 := (h5 rfl).symm
    clear h6
    refine Zp 2059 ?_
    refine Zc (fun hc5 => ?_) fun hc5 => ?_
    ·
     have hx : limN 20 < dcV ((s.drop i).takeWhile digB) := by simp only [limN]; first | omega | (simp; omega)
     refine Zp 14 ?_
     refine AWp.ret ?_
     try simp only [go_sem, hki]
     rw [numS_6 hm (wd_at hw) hx, pl_at (by omega)]; try simp [LeA, LeD, LeL, mulN]
    have hx : ¬ limN 20 < dcV ((s.drop i).takeWhile digB) := by simp only [limN]; first | omega | (simp; omega)
    refine Zk ?_
    refine Zp 14 ?_
    refine AWp.ret ?_
    try simp only [go_sem, hki]
    rw [numS_0 hm (wd_at hw) hx, pl_at (by omega), h5]; simp [LeA, LeD, LeL, mulN]
   replace h6 := h6 rfl
   clear h5
   refine Zp 2059 ?_
   refine Zc (fun hc5 => ?_) fun hc5 => ?_
   ·
    have hx : limN 20 < dcV ((s.drop i).takeWhile digB) := by simp only [limN]; first | omega | (simp; omega)
    refine Zp 14 ?_
    refine AWp.ret ?_
    try simp only [go_sem, hki]
    rw [numS_6 hm (wd_at hw) hx, pl_at (by omega)]; try simp [LeA, LeD, LeL, mulN]
   exact absurd hc5 (by first | (simp; done) | omega | (simp [*]; done))
  have hm := nM_0 (s := s) (k := j) (by omega) (by omega)
  replace hm : numM ((s.drop i).dropWhile digB) = (0, s.drop j) := by rw [hk0]; exact hm
  refine Zk ?_
  refine Zs ?_
  refine Zx ?_
  try simp only [go_sem, hki]
  (repeat (with_reducible refine And.intro ZS ?_))
  refine DW.pcr rfl rfl rfl rfl (rat_c T _ _) rfl rfl ?_
  try simp only [go_sem, hki]
  (repeat (with_reducible refine And.intro ZS ?_))
  refine DW.pcr rfl rfl rfl rfl (rlet_c T _) rfl rfl ?_
  try simp only [go_sem, hki]
  (repeat (with_reducible refine And.intro ZS ?_))
  refine DW.pcgr rfl rfl rfl rfl rfl (fun hg => rat_c T _ _) (fun hg => by (try simp only [go_sem, hki]) <;> first | exact hg | (exfalso; simp at hg; done) | (simpa using hg) | grind) rfl rfl ?_
  try simp only [go_sem, hki]
  (repeat (with_reducible refine And.intro ZS ?_))
  refine DW.pcgr rfl rfl rfl rfl rfl (fun hg => rdig_c T _) (fun hg => by (try simp only [go_sem, hki]) <;> first | exact hg | (exfalso; simp at hg; done) | (simpa using hg) | grind) rfl rfl ?_
  try simp only [go_sem, hki]
  (repeat (with_reducible refine And.intro ZS ?_))
  refine Zm 32798 ?_
  refine Zc (fun hc4 => ?_) fun hc4 => ?_
  ·
   have hw : wdB (s.getD j 0) = true := by first | exact hc4 | (simp only [wdB, Bool.or_eq_true]; exact hc4)
   refine Zp 14 ?_
   refine AWp.ret ?_
   try simp only [go_sem, hki]
   rw [numS_3 hm (wd_at hw), pl_at (by omega)]; try simp [LeA, LeD, LeL, mulN]
  have hw : wdB (s.getD j 0) = false := by first | exact hc4 | (simp only [wdB, Bool.or_eq_false_iff]; exact hc4)
  refine Zk ?_
  refine Zs ?_
  cases bg
  ·
   replace h5 := (h5 rfl).symm
   clear h6
   refine Zp 2059 ?_
   refine Zc (fun hc5 => ?_) fun hc5 => ?_
   ·
    have hx : limN 0 < dcV ((s.drop i).takeWhile digB) := by simp only [limN]; first | omega | (simp; omega)
    refine Zp 14 ?_
    refine AWp.ret ?_
    try simp only [go_sem, hki]
    rw [numS_6 hm (wd_at hw) hx, pl_at (by omega)]; try simp [LeA, LeD, LeL, mulN]
   have hx : ¬ limN 0 < dcV ((s.drop i).takeWhile digB) := by simp only [limN]; first | omega | (simp; omega)
   refine Zk ?_
   refine Zp 14 ?_
   refine AWp.ret ?_
   try simp only [go_sem, hki]
   rw [numS_0 hm (wd_at hw) hx, pl_at (by omega), h5]; simp [LeA, LeD, LeL, mulN]
  replace h6 := h6 rfl
  clear h5
  refine Zp 2059 ?_
  refine Zc (fun hc5 => ?_) fun hc5 => ?_
  ·
   have hx : limN 0 < dcV ((s.drop i).takeWhile digB) := by simp only [limN]; first | omega | (simp; omega)
   refine Zp 14 ?_
   refine AWp.ret ?_
   try simp only [go_sem, hki]
   rw [numS_6 hm (wd_at hw) hx, pl_at (by omega)]; try simp [LeA, LeD, LeL, mulN]
  exact absurd hc5 (by first | (simp; done) | omega | (simp [*]; done))
 have hki : ((j : Int) < (s.length : Int)) = False := by simp; omega
 refine Zx ?_
 try simp only [go_sem, hki]
 (repeat (with_reducible refine And.intro ZS ?_))
 refine DW.pcgr rfl rfl rfl rfl rfl (fun hg => rdig_c T _) (fun hg => by (try simp only [go_sem, hki]) <;> first | exact hg | (exfalso; simp at hg; done) | (simpa using hg) | grind) rfl rfl ?_
 try simp only [go_sem, hki]
 (repeat (with_reducible refine And.intro ZS ?_))
 refine Zm 8207 ?_
 refine Zc (fun hc0 => ?_) fun hc0 => ?_
 ·
  exact absurd hc0 (by first | (simp; done) | omega | (simp [*]; done))
 obtain ⟨e1, e2⟩ := h3.e h1 h2 (fun h9 => by omega)
 rw [tw_take h1 h2] at e1
 rw [← e1] at h5 h6
 have hk0 := dw_at digB s i
 rw [e2, show i + (j - i) = j by omega] at hk0
 clear e1 e2
 refine AWp.exit (thenQ_e (thenQ_e (blkQ_e (thenQ_n ?_))))
 refine Zp 31 ?_
 refine Zs ?_
 refine Zx ?_
 try simp only [go_sem, hki]
 (repeat (with_reducible refine And.intro ZS ?_))
 refine DW.pcr rfl rfl rfl rfl (rat_c T _ _) rfl rfl ?_
 try simp only [go_sem, hki]
 (repeat (with_reducible refine And.intro ZS ?_))
 refine DW.pcgr rfl rfl rfl rfl rfl (fun hg => rat_c T _ _) (fun hg => by (try simp only [go_sem, hki]) <;> first | exact hg | (exfalso; simp at hg; done) | (simpa using hg) | grind) rfl rfl ?_
 try simp only [go_sem, hki]
 (repeat (with_reducible refine And.intro ZS ?_))
 refine Zm 16415 ?_
 refine Zc (fun hc2 => ?_) fun hc2 => ?_
 ·
  have hm := nM_10 (s := s) (k := j) (by omega)
  rw [← hk0] at hm
  have hkl : j < s.length := get_lt (by omega)
  refine Zp 31 ?_
  refine Zr (thenQ_n ?_)
  refine Zs ?_
  refine Zx ?_
  try simp only [go_sem, hki]
  (repeat (with_reducible refine And.intro ZS ?_))
  refine DW.pcr rfl rfl rfl rfl (rat_c T _ _) rfl rfl ?_
  try simp only [go_sem, hki]
  (repeat (with_reducible refine And.intro ZS ?_))
  refine DW.pcr rfl rfl rfl rfl (rlet_c T _) rfl rfl ?_
  try simp only [go_sem, hki]
  (repeat (with_reducible refine And.intro ZS ?_))
  refine DW.pcgr rfl rfl rfl rfl rfl (fun hg => rat_c T _ _) (fun hg => by (try simp only [go_sem, hki]) <;> first | exact hg | (exfalso; simp at hg; done) | (simpa using hg) | grind) rfl rfl ?_
  try simp only [go_sem, hki]
  (repeat (with_reducible refine And.intro ZS ?_))
  refine DW.pcgr rfl rfl rfl rfl rfl (fun hg => rdig_c T _) (fun hg => by (try simp only [go_sem, hki]) <;> first | exact hg | (exfalso; simp at hg; done) | (simpa using hg) | grind) rfl rfl ?_
  try simp only [go_sem, hki]
  (repeat (with_reducible refine And.intro ZS ?_))
  refine Zm 65566 ?_
  refine Zc (fun hc4 => ?_) fun hc4 => ?_
  ·
   have hw : wdB (s.getD (j + 1) 0) = true := by first | exact hc4 | (simp only [wdB, Bool.or_eq_true]; exact hc4)
   refine Zp 14 ?_
   refine AWp.ret ?_
   try simp only [go_sem, hki]
   rw [numS_3 hm (wd_at hw), pl_at (by omega)]; try simp [LeA, LeD, LeL, mulN]
  have hw : wdB (s.getD (j + 1) 0) = false := by first | exact hc4 | (simp only [wdB, Bool.or_eq_false_iff]; exact hc4)
  refine Zk ?_
  refine Zs ?_
  cases bg
  ·
   replace h5 := (h5 rfl).symm
   clear h6
   refine Zp 2059 ?_
   refine Zc (fun hc5 => ?_) fun hc5 => ?_
   ·
    have hx : limN 10 < dcV ((s.drop i).takeWhile digB) := by simp only [limN]; first | omega | (simp; omega)
    refine Zp 14 ?_
    refine AWp.ret ?_
    try simp only [go_sem, hki]
    rw [numS_6 hm (wd_at hw) hx, pl_at (by omega)]; try simp [LeA, LeD, LeL, mulN]
   have hx : ¬ limN 10 < dcV ((s.drop i).takeWhile digB) := by simp only [limN]; first | omega | (simp; omega)
   refine Zk ?_
   refine Zp 14 ?_
   refine AWp.ret ?_
   try simp only [go_sem, hki]
   rw [numS_0 hm (wd_at hw) hx, pl_at (by omega), h5]; simp [LeA, LeD, LeL, mulN]
  replace h6 := h6 rfl
  clear h5
  refine Zp 2059 ?_
  refine Zc (fun hc5 => ?_) fun hc5 => ?_
  ·
   have hx : limN 10 < dcV ((s.drop i).takeWhile digB) := by simp only [limN]; first | omega | (simp; omega)
   refine Zp 14 ?_
   refine AWp.ret ?_
   try simp only [go_sem, hki]
   rw [numS_6 hm (wd_at hw) hx, pl_at (by omega)]; try simp [LeA, LeD, LeL, mulN]
  exact absurd hc5 (by first | (simp; done) | omega | (simp [*]; done))
 refine Zx ?_
 try simp only [go_sem, hki]
 (repeat (with_reducible refine And.intro ZS ?_))
 refine DW.pcr rfl rfl rfl rfl (rat_c T _ _) rfl rfl ?_
 try simp only [go_sem, hki]
 (repeat (with_reducible refine And.intro ZS ?_))
 refine DW.pcgr rfl rfl rfl rfl rfl (fun hg => rat_c T _ _) (fun hg => by (try simp only [go_sem, hki]) <;> first | exact hg | (exfalso; simp at hg; done) | (simpa using hg) | grind) rfl rfl ?_
 try simp only [go_sem, hki]
 (repeat (with_reducible refine And.intro ZS ?_))
 refine Zm 32799 ?_
 refine Zc (fun hc3 => ?_) fun hc3 => ?_
 ·
  have hm := nM_20 (s := s) (k := j) (by omega) (by omega)
  rw [← hk0] at hm
  have hkl : j < s.length := get_lt (by omega)
  refine Zp 31 ?_
  refine Zr (thenQ_n ?_)
  refine Zs ?_
  refine Zx ?_
  try simp only [go_sem, hki]
  (repeat (with_reducible refine And.intro ZS ?_))
  refine DW.pcr rfl rfl rfl rfl (rat_c T _ _) rfl rfl ?_
  try simp only [go_sem, hki]
  (repeat (with_reducible refine And.intro ZS ?_))
  refine DW.pcr rfl rfl rfl rfl (rlet_c T _) rfl rfl ?_
  try simp only [go_sem, hki]
  (repeat (with_reducible refine And.intro ZS ?_))
  refine DW.pcgr rfl rfl rfl rfl rfl (fun hg => rat_c T _ _) (fun hg => by (try simp only [go_sem, hki]) <;> first | exact hg | (exfalso; simp at hg; done) | (simpa using hg) | grind) rfl rfl ?_
  try simp only [go_sem, hki]
  (repeat (with_reducible refine And.intro ZS ?_))
  refine DW.pcgr rfl rfl rfl rfl rfl (fun hg => rdig_c T _) (fun hg => by (try simp only [go_sem, hki]) <;> first | exact hg | (exfalso; simp at hg; done) | (simpa using hg) | grind) rfl rfl ?_
  try simp only [go_sem, hki]
  (repeat (with_reducible refine And.intro ZS ?_))
  refine Zm 65566 ?_
  refine Zc (fun hc4 => ?_) fun hc4 => ?_
  ·
   have hw : wdB (s.getD (j + 1) 0) = true := by first | exact hc4 | (simp only [wdB, Bool.or_eq_true]; exact hc4)
   refine Zp 14 ?_
   refine AWp.ret ?_
   try simp only [go_sem, hki]
   rw [numS_3 hm (wd_at hw), pl_at (by omega)]; try simp [LeA, LeD, LeL, mulN]
  have hw : wdB (s.getD (j + 1) 0) = false := by first | exact hc4 | (simp only [wdB, Bool.or_eq_false_iff]; exact hc4)
  refine Zk ?_
  refine Zs ?_
  cases bg
  ·
   replace h5 := (h5 rfl).symm
   clear h6
   refine Zp 2059 ?_
   refine Zc (fun hc5 => ?_) fun hc5 => ?_
   ·
    have hx : limN 20 < dcV ((s.drop i).takeWhile digB) := by simp only [limN]; first | omega | (simp; omega)
    refine Zp 14 ?_
    refine AWp.ret ?_
    try simp only [go_sem, hki]
    rw [numS_6 hm (wd_at hw) hx, pl_at (by omega)]; try simp [LeA, LeD, LeL, mulN]
   have hx : ¬ limN 20 < dcV ((s.drop i).takeWhile digB) := by simp only [limN]; first | omega | (simp; omega)
   refine Zk ?_
   refine Zp 14 ?_
   refine AWp.ret ?_
   try simp only [go_sem, hki]
   rw [numS_0 hm (wd_at hw) hx, pl_at (by omega), h5]; simp [LeA, LeD, LeL, mulN]
  replace h6 := h6 rfl
  clear h5
  refine Zp 2059 ?_
  refine Zc (fun hc5 => ?_) fun hc5 => ?_
  ·
   have hx : limN 20 < dcV ((s.drop i).takeWhile digB) := by simp only [limN]; first | omega | (simp; omega)
   refine Zp 14 ?_
   refine AWp.ret ?_
   try simp only [go_sem, hki]
   rw [numS_6 hm (wd_at hw) hx, pl_at (by omega)]; try simp [LeA, LeD, LeL, mulN]
  exact absurd hc5 (by first | (simp; done) | omega | (simp [*]; done))
 have hm := nM_0 (s := s) (k := j) (by omega) (by omega)
 replace hm : numM ((s.drop i).dropWhile digB) = (0, s.drop j) := by rw [hk0]; exact hm
 refine Zk ?_
 refine Zs ?_
 refine Zx ?_
 try simp only [go_sem, hki]
 (repeat (with_reducible refine And.intro ZS ?_))
 refine DW.pcr rfl rfl rfl rfl (rat_c T _ _) rfl rfl ?_
 try simp only [go_sem, hki]
 (repeat (with_reducible refine And.intro ZS ?_))
 refine DW.pcr rfl rfl rfl rfl (rlet_c T _) rfl rfl ?_
 try simp only [go_sem, hki]
 (repeat (with_reducible refine And.intro ZS ?_))
 refine DW.pcgr rfl rfl rfl rfl rfl (fun hg => rat_c T _ _) (fun hg => by (try simp only [go_sem, hki]) <;> first | exact hg | (exfalso; simp at hg; done) | (simpa using hg) | grind) rfl rfl ?_
 try simp only [go_sem, hki]
 (repeat (with_reducible refine And.intro ZS ?_))
 refine DW.pcgr rfl rfl rfl rfl rfl (fun hg => rdig_c T _) (fun hg => by (try simp only [go_sem, hki]) <;> first | exact hg | (exfalso; simp at hg; done) | (simpa using hg) | grind) rfl rfl ?_
 try simp only [go_sem, hki]
 (repeat (with_reducible refine And.intro ZS ?_))
 refine Zm 32798 ?_
 refine Zc (fun hc4 => ?_) fun hc4 => ?_
 ·
  have hw : wdB (s.getD j 0) = true := by first | exact hc4 | (simp only [wdB, Bool.or_eq_true]; exact hc4)
  refine Zp 14 ?_
  refine AWp.ret ?_
  try simp only [go_sem, hki]
  rw [numS_3 hm (wd_at hw), pl_at (by omega)]; try simp [LeA, LeD, LeL, mulN]
 have hw : wdB (s.getD j 0) = false := by first | exact hc4 | (simp only [wdB, Bool.or_eq_false_iff]; exact hc4)
 refine Zk ?_
 refine Zs ?_
 cases bg
 ·
  replace h5 := (h5 rfl).symm
  clear h6
  refine Zp 2059 ?_
  refine Zc (fun hc5 => ?_) fun hc5 => ?_
  ·
   have hx : limN 0 < dcV ((s.drop i).takeWhile digB) := by simp only [limN]; first | omega | (simp; omega)
   refine Zp 14 ?_
   refine AWp.ret ?_
   try simp only [go_sem, hki]
   rw [numS_6 hm (wd_at hw) hx, pl_at (by omega)]; try simp [LeA, LeD, LeL, mulN]
  have hx : ¬ limN 0 < dcV ((s.drop i).takeWhile digB) := by simp only [limN]; first | omega | (simp; omega)
  refine Zk ?_
  refine Zp 14 ?_
  refine AWp.ret ?_
  try simp only [go_sem, hki]
  rw [numS_0 hm (wd_at hw) hx, pl_at (by omega), h5]; simp [LeA, LeD, LeL, mulN]
 replace h6 := h6 rfl
 clear h5
 refine Zp 2059 ?_
 refine Zc (fun hc5 => ?_) fun hc5 => ?_
 ·
  have hx : limN 0 < dcV ((s.drop i).takeWhile digB) := by simp only [limN]; first | omega | (simp; omega)
  refine Zp 14 ?_
  refine AWp.ret ?_
  try simp only [go_sem, hki]
  rw [numS_6 hm (wd_at hw) hx, pl_at (by omega)]; try simp [LeA, LeD, LeL, mulN]
 exact absurd hc5 (by first | (simp; done) | omega | (simp [*]; done))
end Go.Proofs.YtlfocommkkkgdaaDoor

namespace Go.Proofs.YtlfocommkkkgdaaDoor
set_option linter.unusedSimpArgs false
set_option linter.unusedVariables false
/-- a text in quotes, and where it ends -/
def quoV (s : Tx) (i : Nat) : Tx × Nat × Bool := match quoT (s.drop (i + 1)) with
  | some p => (p.1, s.length - p.2.length, true)
  | none => ([], s.length, false)
theorem quoV_s {s t : Tx} {i j : Nat} (h : quoT (s.drop (i + 1)) = some (t, s.drop j)) (hj : j ≤ s.length) : quoV s i = (t, j, true) := by rw [quoV, h]; simp only [pl_at hj]
theorem quoV_n {s : Tx} {i : Nat} (h : quoT (s.drop (i + 1)) = none) : quoV s i = ([], s.length, false) := by rw [quoV, h]
attribute [local go_sem] icast8 bytesOf_byteRows brOne brApp in
set_option maxRecDepth 4000 in
set_option maxHeartbeats 1000000 in
theorem strAt_c (T : Tbl) (s : Tx) (i : Nat) (hs : s.length ≤ 1048576) (hi : i < s.length) : PC Tryd.prog T 55 [.d (.str s), .d (.int .i64 (i : Nat))] (.tup [.d (.str (quoV s i).1), .d (.int .i64 ((quoV s i).2.1 : Nat)), .d (.bool (quoV s i).2.2)]) := by
 refine ⟨Tryd.call55, PCall.enterS Tryd.func55 rfl Tryd.ntmps55 rfl fun hb => ?_⟩
 simp only [go_sem, Tryd.results55]
 refine Zp 3 ?_
 refine Zp 7 ?_
 refine Zs ?_
 refine Zp 13 ?_
 refine AWp.block ?_
 simp only [go_sem]
 refine AWp.ownNilS 7 1 rfl rfl (by decide) fun w0 fw0 => ?_
 try simp only [freshT] at fw0
 simp only [go_sem]
 refine Zl 1 6 (fun n lc hc => ∃ (j w : Nat) (X : Tx), n = s.length - j ∧ EqS lc [(7, .own w 1 (byteRows X)), (8, .d (.int .i64 (j : Nat)))] ∧ EqS hc (⟨[], [w]⟩) ∧ (i + 1 ≤ j) ∧ (j ≤ s.length) ∧ (QI s i X j) ∧ (X.length + 1 ≤ j)) ?_ ?_
 · refine ⟨_, i + 1, w0, [], rfl, ZE, ZE, ?_, ?_, ?_, ?_⟩
   all_goals (first | omega | exact QI.z _ _ | (simp; done))
 rintro _ _ _ ⟨j, w, X, rfl, ⟨rfl⟩, ⟨rfl⟩, h1, h2, h3, h4⟩
 simp only [go_sem]
 refine Zs ?_
 refine Zp 71 ?_
 refine Zc (fun hc0 => ?_) fun hc0 => ?_
 ·
  have hlt : j < s.length := by omega
  have hki : (j : Int) < (s.length : Int) := by omega
  refine Zk ?_
  refine Zs ?_
  refine AWp.block ?_
  refine Zp 15 ?_
  refine Zs ?_
  refine Zp 47 ?_
  refine Zc (fun hc1 => ?_) fun hc1 => ?_
  ·
   refine Zp 14 ?_
   refine AWp.ret ?_
   try simp only [go_sem, fw0, hki]
   rw [quoV_s (h3.q hlt hc1) (by omega)]; simp [LeA, LeD, LeL]
  refine Zk ?_
  refine Zs ?_
  refine Zp 79 ?_
  refine Zc (fun hc2 => ?_) fun hc2 => ?_
  ·
   refine Zp 7 ?_
   refine Zs ?_
   refine Zp 71 ?_
   refine Zc (fun hc3 => ?_) fun hc3 => ?_
   ·
    refine Zp 14 ?_
    refine AWp.ret ?_
    try simp only [go_sem, fw0, hki]
    rw [quoV_n (h3.n (by omega) hlt hc2)]; simp [LeA, LeD, LeL]; omega
   have hl2 : j + 1 < s.length := by omega
   have hk2 : ((j + 1 : Nat) : Int) < (s.length : Int) := by omega
   refine Zk ?_
   refine Zr (thenQ_n ?_)
   refine Zm 15 ?_
   refine Zq fun K_ k_ => ?_
   try simp only [go_sem, fw0, hki, hk2]
   (repeat (with_reducible refine And.intro ZS ?_))
   refine DW.app rfl rfl rfl rfl (show slI Tryd.prog 91 = some (5, 1, 1) by simp only [go_sem]) rfl rfl (by simp only [go_sem, fw0, hki, hk2]) (by first | exact .inl rfl | exact .inr rfl) (by simp only [go_sem, List.length_cons, List.length_nil]; omega) (by simp only [go_sem, List.length_cons, List.length_nil]; omega) fun t1 ft1 => ?_
   try simp only [freshT] at ft1
   try simp only [go_sem, fw0, hki, hk2, ft1]
   (repeat (with_reducible refine And.intro ZS ?_))
   refine k_ _ _ (blkQ_n (thenQ_n ?_))
   refine Zm 7 ?_
   refine Zr (thenQ_n ?_)
   refine Ze 1 6 [] [] [] [t1] (.e ⟨_, ZM, (j + 1) + 1, t1, X ++ [s.getD (j + 1) 0], rfl, ZE, ZE, ?_, ?_, ?_, ?_⟩)
   · omega
   · omega
   · exact h3.s2 hl2 hc2
   · simp; omega
  refine Zk ?_
  refine Zq fun K_ k_ => ?_
  try simp only [go_sem, fw0, hki]
  (repeat (with_reducible refine And.intro ZS ?_))
  refine DW.app rfl rfl rfl rfl (show slI Tryd.prog 91 = some (5, 1, 1) by simp only [go_sem]) rfl rfl (by simp only [go_sem, fw0, hki]) (by first | exact .inl rfl | exact .inr rfl) (by simp only [go_sem, List.length_cons, List.length_nil]; omega) (by simp only [go_sem, List.length_cons, List.length_nil]; omega) fun t2 ft2 => ?_
  try simp only [freshT] at ft2
  try simp only [go_sem, fw0, hki, ft2]
  (repeat (with_reducible refine And.intro ZS ?_))
  refine k_ _ _ (blkQ_n (thenQ_n ?_))
  refine Zm 7 ?_
  refine Zr (thenQ_n ?_)
  refine Ze 1 6 [] [] [] [t2] (.e ⟨_, ZM, j + 1, t2, X ++ [s.getD j 0], rfl, ZE, ZE, ?_, ?_, ?_, ?_⟩)
  · omega
  · omega
  · exact h3.s1 hlt hc1 hc2
  · simp; omega
 refine AWp.exit (thenQ_e (thenQ_e (blkQ_e (thenQ_n ?_))))
 refine Zp 14 ?_
 refine AWp.ret ?_
 try simp only [go_sem, fw0]
 rw [quoV_n (h3.e (by omega))]; simp [LeA, LeD, LeL]
/-- a token, as the reference answers -/
def tkEnd (s : Tx) (i : Nat) : AV := if (tokS (s.drop i)).2.1 = 0 then .d (.int .i64 ((s.length - (tokS (s.drop i)).2.2.length : Nat) : Int)) else .any
theorem tkEnd_0 {s : Tx} {i j : Nat} {t : Tk} (h : tokS (s.drop i) = (t, 0, s.drop j)) (hj : j ≤ s.length) : tkEnd s i = .d (.int .i64 ((j : Nat) : Int)) := by rw [tkEnd, h, if_pos rfl]; simp only [pl_at hj]
theorem tkEnd_e {s : Tx} {i : Nat} (h : ¬ (tokS (s.drop i)).2.1 = 0) : tkEnd s i = .any := if_neg h
theorem nS_0 {l : Tx} (h : ¬ (numS l).2.1 = 0) : (numS l).1 = 0 := by
  unfold numS at *
  split
  · rfl
  · split
    · rfl
    · rename_i h1 h2
      rw [if_neg h1, if_neg h2] at h
      exact absurd rfl h
theorem nS_at {s : Tx} {i : Nat} (hi : i ≤ s.length) : ∃ j, j ≤ s.length ∧ (numS (s.drop i)).2.2 = s.drop j := by
  have h : (numS (s.drop i)).2.2 <:+ s := by
    have h1 : (numS (s.drop i)).2.2 = (numM ((s.drop i).dropWhile digB)).2 := by unfold numS; split <;> first | rfl | (split <;> rfl)
    have h2 : ∀ l : Tx, (numM l).2 <:+ l := fun l => by unfold numM; split; exact List.drop_suffix _ _; split; exact List.drop_suffix _ _; exact List.suffix_refl _
    rw [h1]
    exact (h2 _).trans ((List.dropWhile_suffix _).trans (List.drop_suffix _ _))
  exact ⟨_, Nat.sub_le _ _, List.suffix_iff_eq_drop.1 h⟩
theorem tw_cut (s : Tx) (i : Nat) {so : UInt8 → Bool} : List.drop i (List.take (i + ((s.drop i).takeWhile so).length) s) = (s.drop i).takeWhile so := by
  rw [List.drop_take, Nat.add_sub_cancel_left]
  exact (List.prefix_iff_eq_take.1 (List.takeWhile_prefix so)).symm
theorem quo_sub : ∀ (n : Nat) (l t r : Tx), l.length ≤ n → quoT l = some (t, r) → r <:+ l
  | _, [], t, r, _, h => by simp [quoT] at h
  | 0, c :: l, t, r, hn, h => by simp at hn
  | n + 1, c :: l, t, r, hn, h => by
    have hl : l.length ≤ n := by simp at hn; omega
    by_cases h1 : c = 34
    · subst h1
      rw [quo_1] at h
      injection h with h
      injection h with e1 e2
      rw [← e2]; exact List.suffix_cons _ _
    by_cases h2 : c = 92
    · subst h2
      cases l with
      | nil => rw [quo_2] at h; cases h
      | cons d q =>
        rw [quo_3] at h
        obtain ⟨p, hp, e⟩ := Option.map_eq_some_iff.1 h
        injection e with e1 e2
        have := quo_sub n q p.1 p.2 (by simp at hl; omega) hp
        rw [← e2]
        exact this.trans ((List.suffix_cons _ _).trans (List.suffix_cons _ _))
    · rw [quo_4 h1 h2] at h
      obtain ⟨p, hp, e⟩ := Option.map_eq_some_iff.1 h
      injection e with e1 e2
      rw [← e2]
      exact (quo_sub n l p.1 p.2 hl hp).trans (List.suffix_cons _ _)
theorem quo_suf {s t r : Tx} {i : Nat} (h : quoT (s.drop (i + 1)) = some (t, r)) : ∃ j, j ≤ s.length ∧ r = s.drop j := by
  have := (quo_sub _ _ _ _ (Nat.le_refl _) h).trans (List.drop_suffix _ _)
  exact ⟨_, Nat.sub_le _ _, List.suffix_iff_eq_drop.1 this⟩
theorem tk_o3 {s : Tx} {i : Nat} (h0 : letB (s.getD i 0) = false) (h1 : ¬ ((s.getD i 0).toNat : Int) = 58 ∨ letB (s.getD (i + 1) 0) = false) (h2 : digB (s.getD i 0) = false) (h3 : ¬ ((s.getD i 0).toNat : Int) = 34) (h4 : mkB (s.getD i 0) = false) : tokS (s.drop i) = (zTk, 3, []) := by
  by_cases h9 : (s.getD i 0).toNat = 58
  · exact tk_t3 (nl_n h0) h9 (by rcases h1 with h1 | h1; omega; rw [h1]; decide)
  · exact tk_o (nl_n h0) h9 (nd_n h2) (by omega) (by rw [h4]; decide)
attribute [local go_sem] icast8 brOne bytesOf_byteRows in
set_option maxRecDepth 20000 in
set_option maxHeartbeats 1000000 in
theorem tokAt_c (T : Tbl) (s : Tx) (i : Nat) (hs : s.length ≤ 1048576) (hi : i < s.length) : PC Tryd.prog T 22 [.d (.str s), .d (.int .i64 (i : Nat))] (.tup [.agg (tkA (tokS (s.drop i)).1), tkEnd s i, .d (.int .i64 (tokS (s.drop i)).2.1)]) := by
 refine ⟨Tryd.call22, PCall.enterS Tryd.func22 rfl Tryd.ntmps22 rfl fun hb => ?_⟩
 have hki : (i : Int) < (s.length : Int) := by omega
 have htl : ∀ j, j ≤ s.length → True := fun _ _ => trivial
 simp only [go_sem, Tryd.results22]
 refine Zx ?_
 try simp only [go_sem]
 (repeat (with_reducible refine And.intro ZS ?_))
 intro b2
 first | intro fb2 | have fb2 := True.intro
 try simp only [freshL] at fb2
 try simp only [go_sem, fb2]
 (repeat (with_reducible refine And.intro ZS ?_))
 refine Zp 39 ?_
 refine Zs ?_
 refine Zx ?_
 try simp only [go_sem, fb2]
 (repeat (with_reducible refine And.intro ZS ?_))
 refine DW.pcr rfl rfl rfl rfl (rlet_c T _) rfl rfl ?_
 try simp only [go_sem, fb2]
 (repeat (with_reducible refine And.intro ZS ?_))
 refine Zc (fun hc0 => ?_) fun hc0 => ?_
 ·
  have e1 := tw_len wdB s i (by omega)
  have e2 : List.drop i (List.take (i + ((s.drop i).takeWhile wdB).length) s) = (s.drop i).takeWhile wdB := tw_cut s i
  refine Z1 23 (wordEnd_c T s i hs (by omega)) ?_
  refine Zp 28 ?_
  refine AWp.ret ?_
  try simp only [go_sem, fb2, e2]
  have ht := tk_w (s := s) (i := i) hc0
  rw [tkEnd_0 ht (by have := tw_len wdB s i (by omega); have := tw_len wdB s (i + 1) (by omega); omega), ht]; simp [LeA, LeD, LeL, tkA]
 refine Zk ?_
 refine Zs ?_
 refine Zx ?_
 try simp only [go_sem, fb2]
 (repeat (with_reducible refine And.intro ZS ?_))
 refine DW.pcgr rfl rfl rfl rfl rfl (fun hg => rat_c T _ _) (fun hg => by (try simp only [go_sem, fb2]) <;> first | exact hg | (exfalso; simp at hg; done) | (simpa using hg) | grind) rfl rfl ?_
 try simp only [go_sem, fb2]
 (repeat (with_reducible refine And.intro ZS ?_))
 refine DW.pcgr rfl rfl rfl rfl rfl (fun hg => rlet_c T _) (fun hg => by (try simp only [go_sem, fb2]) <;> first | exact hg | (exfalso; simp at hg; done) | (simpa using hg) | grind) rfl rfl ?_
 try simp only [go_sem, fb2]
 (repeat (with_reducible refine And.intro ZS ?_))
 refine Zm 16399 ?_
 refine Zc (fun hc1 => ?_) fun hc1 => ?_
 ·
  have hc58 : ((s.getD i 0).toNat : Int) = 58 ∧ letB (s.getD (i + 1) 0) = true := by first | exact hc1 | (simp at hc1; simpa using hc1) | grind
  have hl1 : i + 1 ≤ s.length := by omega
  have e1 := tw_len wdB s (i + 1) hl1
  have e2 : List.drop (i + 1) (List.take (i + 1 + ((s.drop (i + 1)).takeWhile wdB).length) s) = (s.drop (i + 1)).takeWhile wdB := tw_cut s (i + 1)
  refine Z1 23 (wordEnd_c T s (i + 1) hs hl1) ?_
  refine Zp 28 ?_
  refine AWp.ret ?_
  try simp only [go_sem, fb2, e2]
  have ht := tk_t (nl_n hc0) (by omega) hc58.2
  rw [tkEnd_0 ht (by have := tw_len wdB s i (by omega); have := tw_len wdB s (i + 1) (by omega); omega), ht]; simp [LeA, LeD, LeL, tkA]
 refine Zk ?_
 refine Zs ?_
 refine Zx ?_
 try simp only [go_sem, fb2]
 (repeat (with_reducible refine And.intro ZS ?_))
 refine DW.pcr rfl rfl rfl rfl (rdig_c T _) rfl rfl ?_
 try simp only [go_sem, fb2]
 (repeat (with_reducible refine And.intro ZS ?_))
 refine Zc (fun hc2 => ?_) fun hc2 => ?_
 ·
  have h58 : ¬ (s.getD i 0).toNat = 58 := fun h9 => by have := dig_48 hc2; omega
  have hn := tk_n (s := s) (i := i) (nl_n hc0) h58 hc2
  refine Z1 116 (numAt_c T s i hs hi) ?_
  refine Zp 7 ?_
  refine AWp.ret ?_
  try simp only [go_sem, fb2]
  by_cases hne : (numS (s.drop i)).2.1 = 0
  · rw [if_pos hne] at hn
    obtain ⟨j, hj, ej⟩ := nS_at (s := s) (i := i) (by omega)
    rw [ej] at hn
    rw [tkEnd_0 hn hj, hn, hne, ej, pl_at hj]; simp [LeA, LeD, LeL, tkA]
  · rw [if_neg hne] at hn
    rw [tkEnd_e (by rw [hn]; exact hne), hn, nS_0 hne]; simp [LeA, LeD, LeL, tkA, zTk]
 refine Zk ?_
 refine Zs ?_
 refine Zp 271 ?_
 refine Zc (fun hc3 => ?_) fun hc3 => ?_
 ·
  have hq := tk_q (s := s) (i := i) (nl_n hc0) (by omega) (nd_n hc2) (by omega)
  rcases hqq : quoT (s.drop (i + 1)) with _ | ⟨qt, qr⟩
  ·
   have hv := quoV_n hqq
   rw [hqq] at hq
   refine Z1 116 (strAt_c T s i hs hi) ?_
   refine Zs ?_
   refine Zp 39 ?_
   refine Zc (fun hc4 => ?_) fun hc4 => ?_
   ·
    refine Zp 7 ?_
    refine AWp.ret ?_
    try simp only [go_sem, fb2, hv]
    rw [tkEnd_e (by rw [hq]; decide), hq]; simp [LeA, LeD, LeL, tkA, zTk]
   exact absurd hc4 (by first | (simp; done) | omega | (simp [*]; done))
  obtain ⟨qj, hqj, rfl⟩ := quo_suf (s := s) (i := i) hqq
  have hv := quoV_s hqq hqj
  rw [hqq] at hq
  refine Z1 116 (strAt_c T s i hs hi) ?_
  refine Zs ?_
  refine Zp 39 ?_
  refine Zc (fun hc4 => ?_) fun hc4 => ?_
  ·
   exact absurd hc4 (by first | (simp; done) | omega | (simp [*]; done))
  refine Zk ?_
  refine Zp 7 ?_
  refine AWp.ret ?_
  try simp only [go_sem, fb2, hv]
  rw [tkEnd_0 hq hqj, hq]; simp [LeA, LeD, LeL, tkA]
 refine Zk ?_
 refine Zs ?_
 refine Zx ?_
 try simp only [go_sem, fb2]
 (repeat (with_reducible refine And.intro ZS ?_))
 refine DW.pcr rfl rfl rfl rfl (rmark_c T _) rfl rfl ?_
 try simp only [go_sem, fb2]
 (repeat (with_reducible refine And.intro ZS ?_))
 refine Zc (fun hc5 => ?_) fun hc5 => ?_
 ·
  have h58 : ¬ (s.getD i 0).toNat = 58 := fun h9 => by
    have e := u8_is (c := s.getD i 0) (n := 58) (by omega) (by decide)
    rw [e] at hc5; exact absurd hc5 (by decide)
  refine Zp 28 ?_
  refine AWp.ret ?_
  try simp only [go_sem, fb2]
  have ht := tk_m (s := s) (i := i) (nl_n hc0) h58 (nd_n hc2) (by omega) hc5
  rw [tkEnd_0 ht (by have := tw_len wdB s i (by omega); have := tw_len wdB s (i + 1) (by omega); omega), ht]; simp [LeA, LeD, LeL, tkA]
 refine Zk ?_
 refine Zm 6 ?_
 refine Zp 14 ?_
 refine AWp.ret ?_
 try simp only [go_sem, fb2]
 have ht := tk_o3 (s := s) (i := i) hc0 hc1 hc2 (by omega) hc5
 rw [tkEnd_e (by rw [ht]; first | decide | exact hne), ht]; simp [LeA, LeD, LeL, tkA, zTk]
end Go.Proofs.YtlfocommkkkgdaaDoor

namespace Go.Proofs.YtlfocommkkkgdaaDoor
set_option linter.unusedSimpArgs false
set_option linter.unusedVariables false
theorem tok_suf {s : Tx} {i : Nat} (hi : i < s.length) (h : (tokS (s.drop i)).2.1 = 0) : ∃ q, q ≤ s.length ∧ tokS (s.drop i) = ((tokS (s.drop i)).1, 0, s.drop q) := by
  have hs : (tokS (s.drop i)).2.2 <:+ s := by
    have hd : ∀ k, s.drop k <:+ s := fun k => List.drop_suffix _ _
    have hw : ∀ k (so : UInt8 → Bool), (s.drop k).dropWhile so <:+ s := fun k so => (List.dropWhile_suffix _).trans (hd k)
    rw [tokS]
    split
    · exact hw _ _
    split
    · split
      · rw [List.drop_drop]; exact hw _ _
      · exact List.nil_suffix
    split
    · split
      · obtain ⟨j, _, e⟩ := nS_at (s := s) (i := i) (by omega)
        rw [e]; exact hd _
      · exact List.nil_suffix
    split
    · rw [List.drop_drop]
      split
      · exact List.nil_suffix
      · rename_i p hp
        obtain ⟨j, _, e⟩ := quo_suf (s := s) (i := i) (t := p.1) (r := p.2) hp
        rw [e]; exact hd _
    split
    · rw [List.drop_drop]; exact hd _
    · exact List.nil_suffix
  exact ⟨s.length - (tokS (s.drop i)).2.2.length, Nat.sub_le _ _, Prod.ext rfl (Prod.ext h (List.suffix_iff_eq_drop.1 hs))⟩
attribute [local go_sem] icast8 tkA tkD in
set_option maxRecDepth 4000 in
set_option maxHeartbeats 2000000 in
theorem tokensOf_c (T : Tbl) (s : Tx) : PC Tryd.prog T 10 [.d (.str s)] (.tup [.d (.slc 3 (tksD (cutS s).1)), .d (.int .i64 (cutS s).2.1), .d (.int .i64 (cutS s).2.2)]) := by
 refine ⟨Tryd.call10, PCall.enterS Tryd.func10 rfl Tryd.ntmps10 rfl fun hb => ?_⟩
 simp only [go_sem, Tryd.results10]
 refine Zp 1 ?_
 refine Zs ?_
 refine Zp 9 ?_
 refine Zc (fun hc0 => ?_) fun hc0 => ?_
 ·
  refine Zp 14 ?_
  refine AWp.ret ?_
  try simp only [go_sem]
  rw [cutS, if_pos (by omega)]; simp [LeA, LeD, LeL, tksD]
 have hs : s.length ≤ 1048576 := by omega
 refine Zk ?_
 refine Zp 3 ?_
 refine Zp 7 ?_
 refine AWp.block ?_
 simp only [go_sem]
 refine AWp.ownNilS 5 3 rfl rfl (by decide) fun w0 fw0 => ?_
 try simp only [freshT] at fw0
 simp only [go_sem]
 refine Zl 1 6 (fun n lc hc => ∃ (j w : Nat) (X : List Tk), n = 401 - X.length ∧ EqS lc [(5, .own w 3 (tksD X)), (6, .d (.int .i64 (j : Nat)))] ∧ EqS hc (⟨[], [w]⟩) ∧ (j ≤ s.length) ∧ (X.length ≤ 400) ∧ (cutF s (401 - X.length) X j = cutF s 401 [] 0)) ?_ ?_
 · refine ⟨_, 0, w0, [], rfl, ZE, ZE, ?_, ?_, ?_⟩
   all_goals (first | omega | rfl | (simp; done))
 rintro _ _ _ ⟨j, w, X, rfl, ⟨rfl⟩, ⟨rfl⟩, h1, h2, h3⟩
 obtain ⟨l2, l1, e1⟩ := plS_spec s j h1
 simp only [go_sem]
 refine AWp.block ?_
 refine Z1 27 (silent_c T s j hs h1) ?_
 refine Zs ?_
 refine Zp 39 ?_
 refine Zc (fun hc1 => ?_) fun hc1 => ?_
 ·
  refine Zp 14 ?_
  refine AWp.ret ?_
  try simp only [go_sem, fw0]
  rw [cutS, if_neg (by omega), ← h3, cu_4 h2 rfl hc1]; simp [LeA, LeD, LeL, tksD]
 have hok : okP s j = true := by simpa using hc1
 refine Zk ?_
 refine Zs ?_
 refine Zp 135 ?_
 refine Zc (fun hc2 => ?_) fun hc2 => ?_
 ·
  refine Zp 14 ?_
  refine AWp.ret ?_
  try simp only [go_sem, fw0]
  rw [cutS, if_neg (by omega), ← h3, cu_0 h2 rfl hok (by omega)]; simp [LeA, LeD, LeL, tksD]
 refine Zk ?_
 refine Zs ?_
 refine Zp 71 ?_
 refine Zc (fun hc3 => ?_) fun hc3 => ?_
 ·
  refine Zp 14 ?_
  refine AWp.ret ?_
  try simp only [go_sem, fw0]
  rw [cutS, if_neg (by omega), ← h3, cu_5 h2 rfl hok (by omega) (by omega)]; simp [LeA, LeD, LeL, tksD]
 refine Zk ?_
 by_cases hne : (tokS (s.drop (plS s j))).2.1 = 0
 ·
  obtain ⟨q, hql, hq⟩ := tok_suf (s := s) (i := plS s j) (by omega) hne
  have hte := tkEnd_0 hq hql
  refine Zx ?_
  try simp only [go_sem, fw0, hte]
  (repeat (with_reducible refine And.intro ZS ?_))
  refine DW.pcr rfl rfl rfl rfl (tokAt_c T s (plS s j) hs (by omega)) rfl rfl ?_
  try simp only [go_sem, fw0, hte]
  (repeat (with_reducible refine And.intro ZS ?_))
  intro b9
  first | intro fb9 | have fb9 := True.intro
  try simp only [freshL] at fb9
  try simp only [go_sem, fw0, hte, fb9]
  (repeat (with_reducible refine And.intro ZS ?_))
  refine Zm 63 ?_
  refine Zs ?_
  refine Zp 191 ?_
  refine Zc (fun hc4 => ?_) fun hc4 => ?_
  ·
   exact absurd hc4 (by first | (simp; done) | omega | (simp [*]; done))
  refine Zk ?_
  refine Zx ?_
  try simp only [go_sem, fw0, hte, fb9]
  (repeat (with_reducible refine And.intro ZS ?_))
  refine DW.app rfl rfl rfl rfl (show slI Tryd.prog 28 = some (54, 3, 32) by simp only [go_sem]) rfl rfl (by simp only [go_sem, fw0, hte, fb9]) (by first | exact .inl rfl | exact .inr rfl) (by simp only [go_sem, List.length_cons, List.length_nil]; omega) (by simp only [go_sem, List.length_cons, List.length_nil]; omega) fun t1 ft1 => ?_
  try simp only [freshT] at ft1
  try simp only [go_sem, fw0, hte, fb9, ft1]
  (repeat (with_reducible refine And.intro ZS ?_))
  refine Zm 19 ?_
  refine Zr (blkQ_n (thenQ_n ?_))
  refine Ze 1 6 [b9] [] [] [t1] (.e ⟨_, ?_, q, t1, X ++ [(tokS (s.drop (plS s j))).1], rfl, ?_, ZE, ?_, ?_, ?_⟩)
  · first | omega | (simp; omega) | (simp; omega)
  · (try simp only [go_sem, fw0, hte, fb9, ft1]) <;> first | exact ⟨rfl⟩ | (constructor; simp [tksD, tkD]; done)
  · omega
  · simp; omega
  · rw [← h3, hq]; exact (cu_s h2 rfl hok (by omega) (by omega) hq hql).symm
 have hte := tkEnd_e hne
 refine Zx ?_
 try simp only [go_sem, fw0, hte]
 (repeat (with_reducible refine And.intro ZS ?_))
 refine DW.pcr rfl rfl rfl rfl (tokAt_c T s (plS s j) hs (by omega)) rfl rfl ?_
 try simp only [go_sem, fw0, hte]
 (repeat (with_reducible refine And.intro ZS ?_))
 intro b9
 first | intro fb9 | have fb9 := True.intro
 try simp only [freshL] at fb9
 try simp only [go_sem, fw0, hte, fb9]
 (repeat (with_reducible refine And.intro ZS ?_))
 refine Zm 63 ?_
 refine Zs ?_
 refine Zp 191 ?_
 refine Zc (fun hc4 => ?_) fun hc4 => ?_
 ·
  refine Zp 14 ?_
  refine AWp.ret ?_
  try simp only [go_sem, fw0, hte, fb9]
  rw [cutS, if_neg (by omega), ← h3, cu_e h2 rfl hok (by omega) (by omega) hne rfl]; simp [LeA, LeD, LeL, tksD]
 exact absurd hc4 (by first | (simp; done) | omega | (simp [*]; done))
theorem cutF_len (s : Tx) : ∀ (n : Nat) (X : List Tk) (i : Nat), X.length ≤ 400 → (cutF s n X i).1.length ≤ 400
  | 0, X, i, h => by simp [cutF]
  | n + 1, X, i, h => by
    rw [cutF]
    split
    · simp
    split
    · exact h
    split
    · simp
    split
    · simp
    · exact cutF_len s n _ _ (by simp; omega)
theorem cutS_len (s : Tx) : (cutS s).1.length ≤ 400 := by
  unfold cutS
  split
  · simp
  · exact cutF_len s _ _ _ (by simp)
attribute [local go_sem] icast8 tkD in
set_option maxRecDepth 4000 in
set_option maxHeartbeats 1000000 in
theorem sameTks_c (T : Tbl) (l : List Tk) (hl : l.length ≤ 1000000000) : PC Tryd.prog T 11 [.d (.slc 3 (tksD l)), .d (.slc 3 (tksD l))] (.d (.bool true)) := by
 refine ⟨Tryd.call11, PCall.enterS Tryd.func11 rfl Tryd.ntmps11 rfl fun hb => ?_⟩
 simp only [go_sem, Tryd.results11]
 refine Zp 3 ?_
 refine Zs ?_
 refine Zp 67 ?_
 refine Zc (fun hc0 => ?_) fun hc0 => ?_
 ·
  first | omega | exact absurd hc0 (by simp)
 refine Zk ?_
 refine Zs ?_
 refine Zp 7 ?_
 refine AWp.block ?_
 simp only [go_sem]
 refine Zl 3 4 (fun n lc hc => ∃ (k : Nat), n = l.length - k ∧ EqS lc [(5, .d (.int .i64 (k : Nat)))] ∧ EqS hc (⟨[], []⟩) ∧ (k ≤ l.length)) ⟨_, 0, rfl, ZE, ZE, ZI⟩ ?_
 rintro _ _ _ ⟨k, rfl, ⟨rfl⟩, ⟨rfl⟩, hk⟩
 simp only [go_sem]
 refine Zs ?_
 refine Zp 71 ?_
 refine Zc (fun hc1 => ?_) fun hc1 => ?_
 ·
  have hlt : k < l.length := by omega
  have hki : (k : Int) < (l.length : Int) := by omega
  have zf1 := fun d0_ => tksD_get l k d0_ hlt
  refine Zk ?_
  refine Zs ?_
  refine AWp.block ?_
  refine Zd true [0, 1, 2, 3, 4, 5, 6, 7, 8] ?_
  try simp only [go_sem, zf1, hki]
  (repeat (with_reducible refine And.intro ZS ?_))
  refine Zm 4103 ?_
  refine Zc (fun hc2 => ?_) fun hc2 => ?_
  ·
   first | omega | exact absurd hc2 (by simp) | (simp at hc2)
  refine AWp.skip (blkQ_n (thenQ_n ?_))
  refine Zr (thenQ_n ?_)
  refine Zf 3 4 (.e ⟨_, ZM, k + 1, rfl, ZE, ZE, ZN⟩)
 refine AWp.exit (thenQ_e (thenQ_e (blkQ_e (thenQ_n ?_))))
 refine Zm 0 ?_
 refine Zp 1 ?_
 refine AWp.ret ?_
 try simp only [go_sem]
 try simp [LeA, LeD]
set_option maxRecDepth 4000 in
set_option maxHeartbeats 1000000 in
theorem tokenCuts_c (T : Tbl) (hL : LibT T) (hE : ErT T) (s : Tx) : PC Tryd.prog T 4 [.d (.str s)] (.d (.bool true)) := by
 refine ⟨Tryd.call4, PCall.enterS Tryd.func4 rfl Tryd.ntmps4 rfl fun hb => ?_⟩
 simp only [go_sem, Tryd.results4]
 refine Zp 1 ?_
 refine Z1 15 (Cut_c T hL hE s) ?_
 refine Z1 126 (tokensOf_c T s) ?_
 refine Zx ?_
 try simp only [go_sem]
 (repeat (with_reducible refine And.intro ZS ?_))
 refine DW.pcgr rfl rfl rfl rfl rfl (fun hg => sameTks_c T _ (by have := cutS_len s; omega)) (fun hg => by (try simp only [go_sem]) <;> first | exact hg | (exfalso; simp at hg; done) | (simpa using hg) | grind) rfl rfl ?_
 try simp only [go_sem]
 (repeat (with_reducible refine And.intro ZS ?_))
 refine Zm 1 ?_
 refine AWp.ret ?_
 try simp only [go_sem]
 simp [LeA, LeD]
end Go.Proofs.YtlfocommkkkgdaaDoor

namespace Go.Proofs.YtlfocommkkkgdaaDoor
open Go.RowKit Go.ChangeShapes Go.WideShapes Go.ChangeAt
set_option linter.unusedSimpArgs false
set_option linter.unusedVariables false
open Go.ChangeShapes Go.WideShapes Go.ChangeAt
open Go.ChangeMaps (open_string)
set_option maxRecDepth 100000
theorem iface_of_laid {P : Program} {W : World} {name dn : String} {dd : DataW Unit} {ms : Array (String × TypeId)} {l : List (String × DataW Unit)} {g : Nat} {t : TypeId}
    (hg : P.globalNamed name = some g) (hty : (P.globals[g]?).map (·.type) = some t) (ht : P.underlying t = some (.interface ms))
    (hm : (name, .iface dn dd) ∈ l) (hp : (l.all fun x => x.2.handleName?.isNone) = true) (h : laidMetH P l W) : ∃ te pe, W.cell? ⟨g, 0, none⟩ = some (.iface te pe) := by
  rw [laidMetH_plain' P l W hp] at h
  obtain ⟨ps, hl, _⟩ := h
  obtain ⟨g', t', cs, fuel, p, hg', ht', hvar, hd⟩ := laid_row hl hm
  obtain rfl := Option.some.inj (hg.symm.trans hg')
  obtain rfl := Option.some.inj (hty.symm.trans ht')
  rw [World.var?_cell hg hvar 0, ← Array.getElem?_toList]
  cases fuel with
  | zero => simp [DataW.trod] at hd
  | succ fuel =>
    unfold DataW.trod at hd
    rw [ht] at hd
    revert hd
    generalize cs.toList = zs
    intro hd
    match zs, hd with
    | [.nilIface], hd => simp at hd
    | [.iface u v], hd => exact ⟨u, v, rfl⟩
theorem TabOk.raw {W : World} {g : Nat} {v : Value} (h : W.cell? ⟨g, 0, none⟩ = some v) (hv : v.oneCell' = true) : TabOk W (g, [.raw v]) := ⟨fun j x hx => by
  cases j with
  | zero => simp at hx; subst hx; exact ⟨_, h, .raw _ hv⟩
  | succ j => simp at hx⟩
/-- an error of a text's own, at a variable -/
def laySent (w : World) (g u e : Nat) (s : List UInt8) : World :=
  let w1 := w.alloc (.cells #[.string ⟨s.toArray⟩] e)
  { w1 with heap := w1.heap.modify g fun
      | .cells _ t frozen => .cells #[.iface u (.pointer (some ⟨w.heap.size, 0, none⟩))] t frozen
      | o => o }
theorem tokenCuts_run {H : Type} {enc : TypeId × Value → H} (W : World) (base : Nat) (v0 : Value) (d0 : DataW H) (p0 : List MemPlace)
    (k0 : Value.okWide Tryd.prog W .any base 9 v0) (h0 : DataW.Trod enc Tryd.prog W 0 (fun _ => true) true 9 v0 d0 p0) (s0 : Small Tryd.prog 9 d0)
    (hL : laidMetH Tryd.prog Rows.tokenCutsRow.laid W) (hsh : W.ShapedOpen Tryd.prog) :
    Calls Tryd.prog 4 #[v0] W fun e W' => e = .returned (.bool true) ∧ Below W.heap.size W W' := by
  obtain ⟨z, rfl, rfl, rfl, hzs⟩ := open_string Tryd.underlying9 k0 h0
  obtain ⟨_, m, hm⟩ := Lib0.open_ hsh
  obtain ⟨te, pe, he⟩ := iface_of_laid (g := 8) (name := "strconv.ErrRange") (by kernel_rfl) (by kernel_rfl) Tryd.underlying120 (show _ ∈ Rows.tokenCutsRow.laid from .tail _ (.tail _ (.tail _ (.head _)))) (by kernel_rfl) hL
  let tb : List (Nat × List D) := [(8, [.raw (.iface te pe)]), (3, [.int .i64 m])]
  have hT : ∀ p ∈ tb, TabOk W p := by
    intro p hp
    simp only [tb, List.mem_cons, List.not_mem_nil, or_false] at hp
    rcases hp with rfl | rfl
    · exact .raw he rfl
    · exact .int hm
  refine law_calls (T := tabT tb) (tokenCuts_c (tabT tb) ⟨m, rfl⟩ ⟨te, pe, rfl⟩ z.data.toList) (tabT_ok hT) ⟨rfl, fun i x hx => ?_⟩
  match i, hx with
  | 0, hx =>
    simp at hx
    subst hx
    exact ⟨_, rfl, .d (.str z hzs)⟩
  | i + 1, hx => simp at hx
end Go.Proofs.YtlfocommkkkgdaaDoor

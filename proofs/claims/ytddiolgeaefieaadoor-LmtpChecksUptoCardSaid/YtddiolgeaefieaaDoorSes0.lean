/- Sessions: P12.1 in plain terms. -/
import Derived.Test.YtddiolgeaefieaaDoorAdrs
namespace Go.Proofs.YtddiolgeaefieaaDoor
open Go.RowKit
set_option linter.unusedSimpArgs false
set_option linter.unusedVariables false
structure Ses where
  step : Int
  fr : Adr
  tos : List Adr
  text : ByteArray
  large : Bool
def Ses.val (s : Ses) (v : Value) : Value := .agg #[.int .i64 s.step, .string s.fr.l, .string s.fr.d, v, .string s.text, .bool s.large]
def adr0 : Adr := ⟨ByteArray.empty, ByteArray.empty⟩
def toOk (l : List Adr) : Prop := ∀ (k : Nat) a, l[k]? = some a → addrE a = 0 ∧ inB (l.take k) a = false
structure SesOk (s : Ses) : Prop where
  lo : 0 ≤ s.step
  hi : s.step ≤ 5
  len : s.tos.length ≤ 5
  size : s.text.size ≤ 2000
  fr1 : 2 ≤ s.step → s.step ≤ 4 → addrE s.fr = 0
  fr0 : s.step < 2 ∨ 4 < s.step → s.fr = adr0
  to1 : 3 ≤ s.step → s.step ≤ 4 → s.tos ≠ [] ∧ toOk s.tos
  to0 : s.step < 3 ∨ 4 < s.step → s.tos = []
  tx : s.step ≠ 4 → s.text = ByteArray.empty ∧ s.large = false
noncomputable def sesE (s : Ses) : Int := @ite _ (SesOk s) (Classical.propDecidable _) 0 11
theorem sesE_ok {s : Ses} (h : SesOk s) : sesE s = 0 := by unfold sesE; exact @if_pos _ (Classical.propDecidable _) h _ _ _
theorem sesE_no {s : Ses} (h : ¬ SesOk s) : sesE s = 11 := by unfold sesE; exact @if_neg _ (Classical.propDecidable _) h _ _ _
theorem toOk_all {l : List Adr} {n : Nat} (hn : l.length ≤ n) (h : ∀ (k : Nat) a, k < n → l[k]? = some a → addrE a = 0 ∧ inB (l.take k) a = false) : toOk l := fun k a hk => h k a (Nat.lt_of_lt_of_le (List.getElem?_eq_some_iff.1 hk).1 hn) hk
theorem wp_world {P : Program} {c : Code} {Q : Exit → Act → World → Prop} {a : Act} {w : World} (R : World → Prop) (h : R w) (k : ∀ w', R w' → c.wp P Q a w') : c.wp P Q a w := k w h
theorem size0 {s : ByteArray} (h : s.size = 0) : s = ByteArray.empty := by
  apply bs_inj
  have : bs s = [] := List.eq_nil_of_length_eq_zero (by rw [bs_len]; exact h)
  rw [this]; rfl
theorem ne_empty {s : ByteArray} (h : s ≠ ByteArray.empty) : s.toList.isEmpty = false ∧ ¬ s.toList = [] := by
  rw [ByteArray.toList_eq]
  cases he : s.data.toList with
  | nil => exact absurd (size0 (by rw [← bs_len]; unfold bs; rw [he]; rfl)) h
  | cons a b => exact ⟨rfl, by simp⟩
end Go.Proofs.YtddiolgeaefieaaDoor

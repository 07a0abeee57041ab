/- A text's first place in a slice of texts; a table as such a slice. -/
import Derived.Test.YtdofgjpgppaghaaDoorStrs
import Derived.Test.YtdofgjpgppaghaaDoorLaid
namespace Go.Proofs.YtdofgjpgppaghaaDoor
open Go.RowKit
set_option linter.unusedSimpArgs false
set_option linter.unusedVariables false
/-- v's first place in l, or -1 -/
def ixOf (v : ByteArray) : List ByteArray → Int
  | [] => -1
  | x :: r => if x = v then 0 else (let k := ixOf v r; if k < 0 then -1 else k + 1)
theorem ixOf_none {v : ByteArray} {l : List ByteArray} (h : ∀ x ∈ l, x ≠ v) : ixOf v l = -1 := by
  induction l with
  | nil => rfl
  | cons x r ih =>
    have h1 := ih fun y hy => h y (by simp [hy])
    simp only [ixOf]
    rw [if_neg (h x (by simp)), h1]
    rfl
theorem ixOf_some {v : ByteArray} : ∀ {l : List ByteArray} {k : Nat}, l[k]? = some v → (∀ j, j < k → l[j]? ≠ some v) → ixOf v l = k
  | [], k, h, _ => by simp at h
  | x :: r, 0, h, _ => by
    simp at h
    simp [ixOf, h]
  | x :: r, k + 1, h, h' => by
    have h1 := ixOf_some (l := r) (k := k) (by simpa using h) (fun j hj => by have := h' (j + 1) (by omega); simpa using this)
    have hx : x ≠ v := by have := h' 0 (by omega); simpa using this
    simp only [ixOf, if_neg hx, h1]
    rw [if_neg (by omega)]
    omega
theorem ixOf_cases (v : ByteArray) (l : List ByteArray) : (ixOf v l = -1 ∧ ∀ x ∈ l, x ≠ v) ∨ ∃ k : Nat, k < l.length ∧ ixOf v l = k ∧ l[k]? = some v := by
  induction l with
  | nil => exact .inl ⟨rfl, by simp⟩
  | cons x r ih =>
    by_cases hx : x = v
    · subst hx
      exact .inr ⟨0, by simp, by simp [ixOf], by simp⟩
    · rcases ih with ⟨h1, h2⟩ | ⟨k, h1, h2, h3⟩
      · refine .inl ⟨?_, fun y hy => ?_⟩
        · simp only [ixOf, if_neg hx, h1]; rfl
        · rcases List.mem_cons.1 hy with rfl | hy
          · exact hx
          · exact h2 y hy
      · refine .inr ⟨k + 1, by simp; omega, ?_, by simpa using h3⟩
        simp only [ixOf, if_neg hx, h2]
        rw [if_neg (by omega)]
        omega
set_option maxRecDepth 20000 in
theorem index_any (v : Value) (l : List ByteArray) (s : ByteArray) (w : World) (h : RF strF w (· < w.heap.size) v l) :
    Calls Tryd.prog 7 #[v, .string s] w fun e w' => e = .returned (.int .i64 (ixOf s l)) ∧ ∃ d, w' = w.drewN d := by
  obtain ⟨A, c, rfl, h⟩ := h.ex
  have hm := h.bound
  unfold maxLen at hm
  have H := Lib.hid h
  clear h
  go_enter Tryd.func7, Tryd.ntmps7
  go_wp2_with fail
  go_loopw [8] (fun i wr => ∃ k : Nat, k ≤ l.length ∧ i = .int .i64 k ∧ (∃ d, wr = w.drewN d) ∧ ∀ j, j < k → l[j]? ≠ some s) (fun i _ => l.length - (intOf i).toNat)
  case atStart => exact ⟨0, Nat.zero_le _, rfl, ⟨0, rfl⟩, fun j hj => by omega⟩
  case round =>
    obtain ⟨k, hk, rfl, ⟨d, rfl⟩, hne⟩ := hrel
    have HN := Lib.hid hne
    clear hne
    by_cases hlt : k < l.length
    · obtain ⟨b, off, x, rfl, _, hx, hc⟩ := str_cell H.out hlt
      have HX := Lib.hid hx
      clear hx
      by_cases he : x = s
      · subst he
        have HF := Lib.hid (ixOf_some HX.out HN.out)
        go_wp2_with fail
        go_ret
        exact ⟨by rw [HF.out]; rfl, d, rfl⟩
      · have he1 := text_ne (Ne.symm he)
        have HE := Lib.hid he
        clear he
        go_wp2_with fail
        go_roundw
        case rel =>
          refine ⟨k + 1, by omega, by go_num, ⟨d, rfl⟩, fun j hj => ?_⟩
          by_cases e : j = k
          · subst e
            rw [HX.out]
            intro h'
            injection h' with h'
            exact HE.out h'
          · exact HN.out j (by omega)
        case measure => simp [intOf]; omega
    · obtain rfl : k = l.length := by omega
      have HF := Lib.hid (ixOf_none (v := s) (l := l) fun x hx e => by
        obtain ⟨j, hj, e'⟩ := List.mem_iff_getElem.1 hx
        exact HN.out j hj (by rw [List.getElem?_eq_getElem hj, e', e]))
      go_wp2_with fail
      go_ret
      exact ⟨by rw [HF.out]; rfl, d, rfl⟩
/-- a table of texts, taken as a slice -/
theorem RF.of_texts {w : World} {g : Nat} {zs : List (List UInt8)} (h : TextsAt w g zs) (hg : g < w.heap.size) (n : Nat) (hn : zs.length = n) (hm : n ≤ maxLen) :
    RF strF w (· < w.heap.size) (.slice (some ⟨g, 0, none⟩) n n) (zs.map mk) := by
  have e : (zs.map mk).flatMap strF.enc = zs.map fun z => Value.string (mk z) := by
    clear h hn
    induction zs with
    | nil => rfl
    | cons z r ih => simp only [List.map_cons, List.flatMap_cons, ih]; rfl
  refine ⟨some ⟨g, 0, none⟩, n, by simp [hn], by simp [hn], hm, by simp, ?_, fun _ => ⟨g, 0, rfl, hg, fun j u hu => ?_⟩⟩
  · rw [e]
    simp [strF]
  · rw [e, List.getElem?_map, Option.map_eq_some_iff] at hu
    obtain ⟨z, hz, rfl⟩ := hu
    rw [Nat.zero_add]
    exact h j z hz
end Go.Proofs.YtdofgjpgppaghaaDoor

/- Lists of addresses. -/
import Derived.Test.YtddiolgeaefieaaDoorWho3
import Derived.Test.YtddiolgeaefieaaDoorFlat
namespace Go.Proofs.YtddiolgeaefieaaDoor
open Go.RowKit
set_option linter.unusedSimpArgs false
set_option linter.unusedVariables false
def adrF : Flat Adr := ⟨2, fun x => [.string x.l, .string x.d], fun _ => rfl, fun x u hu => by
  simp at hu
  rcases hu with rfl | rfl <;> rfl, by decide⟩
theorem el_adr : Elem Tryd.prog 30 23 adrF.k 32 := ⟨Tryd.underlying30, by kernel_rfl, by decide⟩
theorem adr_cell {w : World} {D : Nat → Prop} {A : Option Addr} {n c : Nat} {l : List Adr} (h : RF adrF w D (.slice A n c) l) {i : Nat} (hi : i < n) :
    ∃ b off x, A = some ⟨b, off, none⟩ ∧ D b ∧ l[i]? = some x ∧ w.cell? ⟨b, off + i * 2, none⟩ = some (.string x.l) ∧ w.cell? ⟨b, off + i * 2 + 1, none⟩ = some (.string x.d) := by
  obtain ⟨b, off, x, e, hb, hx, hc⟩ := h.at_ hi
  exact ⟨b, off, x, e, hb, hx, hc 0 _ rfl, hc 1 _ rfl⟩
theorem Adr.ext' {a b : Adr} (h1 : a.l = b.l) (h2 : a.d = b.d) : a = b := by cases a; cases b; simp_all
instance adrDec : DecidableEq Adr := fun a b => if h : a.l = b.l ∧ a.d = b.d then isTrue (Adr.ext' h.1 h.2) else isFalse (fun e => h (by rw [e]; exact ⟨rfl, rfl⟩))
def inB (l : List Adr) (a : Adr) : Bool := decide (a ∈ l)
theorem inB_yes {l : List Adr} {a : Adr} {k : Nat} (h : l[k]? = some a) : inB l a = true := by unfold inB; simpa using List.mem_of_getElem? h
theorem inB_no {l : List Adr} {a : Adr} (h : ∀ (j : Nat) x, l[j]? = some x → x ≠ a) : inB l a = false := by
  unfold inB
  rw [decide_eq_false_iff_not]
  intro hm
  obtain ⟨j, hj, e⟩ := List.mem_iff_getElem.1 hm
  exact h j a (by rw [List.getElem?_eq_getElem hj, e]) rfl
def inI (l : List Adr) (a : Adr) (k : Int) : Prop := (inB l a = true ∧ 0 ≤ k) ∨ (inB l a = false ∧ k = -1)
set_option maxRecDepth 20000 in
theorem adrIndex_any (v : Value) (l : List Adr) (a : Adr) (w : World) (h : RF adrF w (· < w.heap.size) v l) :
    Calls Tryd.prog 87 #[v, a.val] w fun e w' => (∃ k, e = .returned (.int .i64 k) ∧ inI l a k) ∧ Below w.heap.size w w' := by
  obtain ⟨A, c, rfl, h⟩ := h.ex
  have hm := h.bound
  unfold maxLen at hm
  have H := Lib.hid h
  clear h
  obtain ⟨al, ad⟩ := a
  unfold Adr.val
  dsimp only
  go_enter Tryd.func87, Tryd.ntmps87
  go_wp2_with fail
  go_loopw [8] (fun i wr => ∃ k : Nat, k ≤ l.length ∧ i = .int .i64 k ∧ (∃ d, wr = (w.alloc (.cells #[.string al, .string ad] 23)).drewN d) ∧ ∀ (j : Nat) x, j < k → l[j]? = some x → x ≠ ⟨al, ad⟩) (fun i _ => l.length - (intOf i).toNat)
  case atStart => exact ⟨0, Nat.zero_le _, rfl, ⟨0, rfl⟩, fun j x hj => by omega⟩
  case round =>
    obtain ⟨k, hk, rfl, ⟨d, rfl⟩, hne⟩ := hrel
    have HN := Lib.hid hne
    clear hne
    by_cases hlt : k < l.length
    · obtain ⟨b, off, x, rfl, hbl, hx, hc0, hc1⟩ := adr_cell H.out hlt
      have HX := Lib.hid hx
      clear hx
      obtain ⟨xl, xd⟩ := x
      dsimp only at hc0 hc1
      have i0 : (0 : Int) ≤ k := by omega
      have i1 : (k : Int) < l.length := by omega
      have hbn : b ≠ w.heap.size := by omega
      have hc0' : (w.alloc (.cells #[.string al, .string ad] 23)).cell? ⟨b, off + k * 2, none⟩ = some (.string xl) := (Below.cell (p := ⟨b, off + k * 2, none⟩) (Below.alloc (Below.refl w.heap.size w) (Nat.le_refl _) _) hbl).trans hc0
      have hc1' : (w.alloc (.cells #[.string al, .string ad] 23)).cell? ⟨b, off + k * 2 + 1, none⟩ = some (.string xd) := (Below.cell (p := ⟨b, off + k * 2 + 1, none⟩) (Below.alloc (Below.refl w.heap.size w) (Nat.le_refl _) _) hbl).trans hc1
      by_cases he : (⟨xl, xd⟩ : Adr) = ⟨al, ad⟩
      · injection he with h1 h2
        subst h1 h2
        have HF := Lib.hid (inB_yes HX.out)
        go_wp2_with fail
        go_quiet (fail)
        go_wp2_with fail
        go_ret
        exact ⟨⟨_, rfl, .inl ⟨HF.out, by omega⟩⟩, below_drewN (below_drewN ((Below.refl _ _).alloc (Nat.le_refl _) _) _) _⟩
      · have hne : xl ≠ al ∨ (xl = al ∧ xd ≠ ad) := by
          by_cases h : xl = al
          · right; refine ⟨h, fun h' => he (by rw [h, h'])⟩
          · left; exact h
        have HE := Lib.hid he
        clear he
        rcases hne with h1 | ⟨rfl, h1⟩
        all_goals
          have t1 := text_ne h1
          have t2 := text_ne (Ne.symm h1)
          clear h1
          go_wp2_with fail
          go_quiet (fail)
          go_wp2_with fail
          go_roundw
          case rel =>
            refine ⟨k + 1, by omega, by go_num, ⟨_, rfl⟩, fun j y hj hy => ?_⟩
            by_cases e : j = k
            · subst e
              rw [HX.out] at hy
              injection hy with hy
              subst hy
              exact HE.out
            · exact HN.out j y (by omega) hy
          case measure => simp [intOf]; omega
    · obtain rfl : k = l.length := by omega
      have HF := Lib.hid (inB_no (l := l) (a := ⟨al, ad⟩) fun j x hx => HN.out j x (List.getElem?_eq_some_iff.1 hx).1 hx)
      go_wp2_with fail
      go_ret
      exact ⟨⟨_, rfl, .inr ⟨HF.out, rfl⟩⟩, below_drewN ((Below.refl _ _).alloc (Nat.le_refl _) _) _⟩
set_option maxRecDepth 20000 in
theorem addressIn_any (v : Value) (l : List Adr) (a : Adr) (w : World) (h : RF adrF w (· < w.heap.size) v l) :
    Calls Tryd.prog 51 #[v, a.val] w fun e w' => e = .returned (.bool (inB l a)) ∧ Below w.heap.size w w' := by
  obtain ⟨A, c, rfl, h⟩ := h.ex
  have hm := h.bound
  unfold maxLen at hm
  have H := Lib.hid h
  clear h
  obtain ⟨al, ad⟩ := a
  unfold Adr.val
  dsimp only
  go_enter Tryd.func51, Tryd.ntmps51
  go_wp2_with fail
  go_loopw [5] (fun i wr => ∃ k : Nat, k ≤ l.length ∧ i = .int .i64 k ∧ (∃ d, wr = (w.alloc (.cells #[.string al, .string ad] 23)).drewN d) ∧ ∀ (j : Nat) x, j < k → l[j]? = some x → x ≠ ⟨al, ad⟩) (fun i _ => l.length - (intOf i).toNat)
  case atStart => exact ⟨0, Nat.zero_le _, rfl, ⟨0, rfl⟩, fun j x hj => by omega⟩
  case round =>
    obtain ⟨k, hk, rfl, ⟨d, rfl⟩, hne⟩ := hrel
    have HN := Lib.hid hne
    clear hne
    by_cases hlt : k < l.length
    · obtain ⟨b, off, x, rfl, hbl, hx, hc0, hc1⟩ := adr_cell H.out hlt
      have HX := Lib.hid hx
      clear hx
      obtain ⟨xl, xd⟩ := x
      dsimp only at hc0 hc1
      have i0 : (0 : Int) ≤ k := by omega
      have i1 : (k : Int) < l.length := by omega
      have hbn : b ≠ w.heap.size := by omega
      have hc0' : (w.alloc (.cells #[.string al, .string ad] 23)).cell? ⟨b, off + k * 2, none⟩ = some (.string xl) := (Below.cell (p := ⟨b, off + k * 2, none⟩) (Below.alloc (Below.refl w.heap.size w) (Nat.le_refl _) _) hbl).trans hc0
      have hc1' : (w.alloc (.cells #[.string al, .string ad] 23)).cell? ⟨b, off + k * 2 + 1, none⟩ = some (.string xd) := (Below.cell (p := ⟨b, off + k * 2 + 1, none⟩) (Below.alloc (Below.refl w.heap.size w) (Nat.le_refl _) _) hbl).trans hc1
      by_cases he : (⟨xl, xd⟩ : Adr) = ⟨al, ad⟩
      · injection he with h1 h2
        subst h1 h2
        have HF := Lib.hid (inB_yes HX.out)
        go_wp2_with fail
        go_quiet (fail)
        go_wp2_with fail
        go_ret
        exact ⟨by rw [HF.out]; rfl, below_drewN (below_drewN ((Below.refl _ _).alloc (Nat.le_refl _) _) _) _⟩
      · have hne : xl ≠ al ∨ (xl = al ∧ xd ≠ ad) := by
          by_cases h : xl = al
          · right; refine ⟨h, fun h' => he (by rw [h, h'])⟩
          · left; exact h
        have HE := Lib.hid he
        clear he
        rcases hne with h1 | ⟨rfl, h1⟩
        all_goals
          have t1 := text_ne h1
          have t2 := text_ne (Ne.symm h1)
          clear h1
          go_wp2_with fail
          go_quiet (fail)
          go_wp2_with fail
          go_roundw
          case rel =>
            refine ⟨k + 1, by omega, by go_num, ⟨_, rfl⟩, fun j y hj hy => ?_⟩
            by_cases e : j = k
            · subst e
              rw [HX.out] at hy
              injection hy with hy
              subst hy
              exact HE.out
            · exact HN.out j y (by omega) hy
          case measure => simp [intOf]; omega
    · obtain rfl : k = l.length := by omega
      have HF := Lib.hid (inB_no (l := l) (a := ⟨al, ad⟩) fun j x hx => HN.out j x (List.getElem?_eq_some_iff.1 hx).1 hx)
      go_wp2_with fail
      go_ret
      exact ⟨by rw [HF.out]; rfl, below_drewN ((Below.refl _ _).alloc (Nat.le_refl _) _) _⟩
set_option maxRecDepth 20000 in
theorem adrContains_any (v : Value) (l : List Adr) (a : Adr) (w : World) (h : RF adrF w (· < w.heap.size) v l) :
    Calls Tryd.prog 50 #[v, a.val] w fun e w' => e = .returned (.bool (inB l a)) ∧ Below w.heap.size w w' := by
  obtain ⟨A, c, rfl, h⟩ := h.ex
  have H := Lib.hid h
  clear h
  have HI := Lib.hid (fun wx hx => adrIndex_any (.slice A l.length c) l a wx hx)
  obtain ⟨al, ad⟩ := a
  unfold Adr.val at *
  dsimp only at *
  go_enter Tryd.func50, Tryd.ntmps50
  go_wp2_with fail
  refine (HI.out _ (by refine RF.is.to H.out ?_ ?_ <;> first | (intro b hb; first | omega | (simp; omega) | (simp at hb; omega) | (simp at hb ⊢; omega) | (simp [New] at hb; omega) | (simp [New] at hb ⊢; omega) | (simp [New] at hb ⊢; done)) | ((repeat (first | with_reducible exact Keeps.refl _ _ | with_reducible refine Keeps.al' ?_ ?_ _ | with_reducible refine Keeps.st' ?_ ?_ _ | with_reducible refine Keeps.dr' ?_ | with_reducible refine Keeps.drN' ?_)); all_goals (intro b hb; first | omega | (simp; omega) | (simp at hb; omega) | (simp at hb ⊢; omega) | (simp [New] at hb; omega) | (simp [New] at hb ⊢; omega) | (simp [New] at hb ⊢; done))))).mono ?_
  rintro e w1 ⟨⟨k, rfl, hk⟩, hb1⟩
  rcases hk with ⟨h1, h2⟩ | ⟨h1, rfl⟩
  all_goals
    have HF := Lib.hid h1
    clear h1
    go_wp2_with fail
    go_ret
    refine ⟨by rw [HF.out]; first | rfl | simp [*], ?_⟩
    (repeat (first | with_reducible exact hb1 | with_reducible refine Below.trans ?_ (Below.mono hb1 ?_) | with_reducible exact Below.refl _ _ | with_reducible refine Below.setCell ?_ ?_ _ | with_reducible refine Below.alloc ?_ ?_ _ | with_reducible refine Below.drew ?_ | with_reducible refine below_drewN ?_ _))
    all_goals (first | omega | (simp; done) | (simp; omega))
end Go.Proofs.YtddiolgeaefieaaDoor

/- The law Names. -/
import Derived.Test.YtdofgjpgppaghaaMem
import Derived.Test.YtdofgjpgppaghaaRow
import Derived.Test.YtdofgjpgppaghaaStr
import Derived.Deep.Cut
import Derived.Outline
namespace Go.Proofs.Ytdofgjpgppaghaa
open Go.RowKit Go.ChangeShapes Go.WideShapes Go.ChangeAt
set_option linter.unusedSimpArgs false
set_option linter.unusedVariables false
open Go.ChangeShapes Go.WideShapes Go.ChangeAt
theorem el_int : Elem Try.prog 24 3 1 8 := ⟨Try.underlying24, by kernel_rfl, by decide⟩
def iv (l : List Int) : List Value := l.map (Value.int .i64)
theorem iv_one (l : List Int) : ∀ u ∈ iv l, u.oneCell' = true := by
  intro u hu
  obtain ⟨x, _, rfl⟩ := List.mem_map.1 hu
  rfl
/-- a row that was just laid is the call's own -/
theorem own_lit {w : World} {base : Nat} {e : TypeId} (n : Nat) (l : List Int) (cs : Array Value) (hl : l.length = n) (hc : cs.toList = iv l) (hb : base ≤ w.heap.size) (hm : n ≤ maxLen) :
    (w.alloc (.cells cs e)).ownsRow base e 1 (.slice (some ⟨w.heap.size, 0, none⟩) n n) n (iv l) := by
  have hlen : (iv l).length = n := by unfold iv; rw [List.length_map, hl]
  refine ⟨by rw [hlen, Nat.mul_one], .inr ⟨w.heap.size, n, cs, rfl, hb, heap_alloc_new w _, Nat.le_refl _, hm, ?_, ?_⟩⟩
  · rw [← Array.length_toList, hc, hlen, Nat.mul_one]
  · rw [hc, Nat.mul_one, ← hlen, List.take_length]
def a31 : List Int := [1, 2, 3, 1, 2, 3, 1, 2, 3, 4, 5, 1, 2, 3, 4, 5, 6, 7, 8, 9, 10, 1, 2, 3, 4, 5, 6, 7, 8, 9, 10]
def a28 : List Int := [1, 2, 4, 8, 16, 1, 2, 3, 4, 5, 6, 1, 2, 3, 4, 5, 6, 0, 1, 2, 3, 4, 5, 1, 2, 3, 4, 5]
def a25 : List Int := [2000, 100, 30, 20, 2000, 400, 2147483647, 6, 400, 6, 5, 30, 12, 1048576, 6000, 20, 10, 3, 100000, 10000, 8, 3000, 300, 5, 3]
/-- two rows of the call's own, apart -/
def Apart (u v : Value) : Prop := ∀ k, u.ownBlock = some k → v.ownBlock ≠ some k
theorem Apart.symm {u v : Value} (h : Apart u v) : Apart v u := fun k hk h' => h k h' hk
def Two (w0 W : World) (u v : Value) (n m : Nat) (l1 l2 : List Int) : Prop :=
  W.ownsRow w0.heap.size 3 1 u n (iv l1) ∧ W.ownsRow w0.heap.size 3 1 v m (iv l2) ∧ Apart u v ∧ Below w0.heap.size w0 W
theorem Two.symm {w0 W : World} {u v : Value} {n m : Nat} {l1 l2 : List Int} (h : Two w0 W u v n m l1 l2) : Two w0 W v u m n l2 l1 := ⟨h.2.1, h.1, h.2.2.1.symm, h.2.2.2⟩
theorem Two.start (w : World) (o : Obj) (c1 c2 : Array Value) (n m : Nat) (l1 l2 : List Int) (k1 : l1.length = n) (e1 : c1.toList = iv l1) (m1 : n ≤ maxLen) (k2 : l2.length = m) (e2 : c2.toList = iv l2) (m2 : m ≤ maxLen) :
    Two w (((w.alloc o).alloc (.cells c1 3)).alloc (.cells c2 3)) (.slice (some ⟨w.heap.size + 1, 0, none⟩) n n) (.slice (some ⟨w.heap.size + 1 + 1, 0, none⟩) m m) n m l1 l2 := by
  have h1 : ((w.alloc o).alloc (.cells c1 3)).ownsRow w.heap.size 3 1 (.slice (some ⟨w.heap.size + 1, 0, none⟩) n n) n (iv l1) := by
    have := own_lit (w := w.alloc o) (base := w.heap.size) (e := 3) n l1 c1 k1 e1 (by simp) m1
    simpa using this
  have h2 : (((w.alloc o).alloc (.cells c1 3)).alloc (.cells c2 3)).ownsRow w.heap.size 3 1 (.slice (some ⟨w.heap.size + 1 + 1, 0, none⟩) m m) m (iv l2) := by
    have := own_lit (w := (w.alloc o).alloc (.cells c1 3)) (base := w.heap.size) (e := 3) m l2 c2 k2 e2 (by simp; omega) m2
    simpa using this
  refine ⟨h1.alloc _, h2, ?_, (((Below.refl _ _).alloc (Nat.le_refl _) _).alloc (by simp) _).alloc (by simp; omega) _⟩
  intro k hk h'
  have e1 : w.heap.size + 1 = k := by simpa [Value.ownBlock] using hk
  have e2 : w.heap.size + 1 + 1 = k := by simpa [Value.ownBlock] using h'
  omega
theorem Two.step {w0 W W' : World} {u u' v : Value} {n m k : Nat} {l1 l2 l3 : List Int} {o : Obj} (h : Two w0 W u v n m l1 l2) (hg : Grew (W.alloc o) W' u u') (ho : W'.ownsRow w0.heap.size 3 1 u' (n + k) (iv l1 ++ iv l3)) :
    Two w0 W' u' v (n + k) m (l1 ++ l3) l2 := by
  have hu := h.1.alloc o
  have hv := h.2.1.alloc o
  have ha := h.2.2.1
  refine ⟨by rw [iv, List.map_append]; exact ho, ?_, ?_, ?_⟩
  · refine ⟨hv.1, ?_⟩
    rcases hv.2 with h | ⟨g, cap, cur, rfl, hb, hh, r⟩
    · exact .inl h
    · refine .inr ⟨g, cap, cur, rfl, hb, ?_, r⟩
      rw [hg.by_.block g (hv.lt g rfl).2 (fun h => ha g h.symm rfl)]
      exact hh
  · intro j hj h'
    rcases hg.at_ with h | h
    · exact ha j (h ▸ hj) h'
    · rw [h] at hj
      injection hj with hj
      have := (hv.lt j h').2
      omega
  · exact hg.below (h.2.2.2.alloc h.2.2.2.size o) (Nat.le_refl _) (by have := h.2.2.2.size; simp; omega) hu
theorem Two.off {w0 W : World} {u v : Value} {n m : Nat} {l1 l2 : List Int} (h : Two w0 W u v n m l1 l2) : w0.heap.size ≤ W.heap.size := h.2.2.2.size
theorem Two.cells {w0 W : World} {u v : Value} {n : Nat} {l : List Int} (h : Two w0 W u v n n l l) (hn : 0 < n) :
    ∃ g1 c1 g2 c2, u = .slice (some ⟨g1, 0, none⟩) n c1 ∧ v = .slice (some ⟨g2, 0, none⟩) n c2 ∧ ∀ k, k < n → ∃ x, W.cell? ⟨g1, k, none⟩ = some (.int .i64 x) ∧ W.cell? ⟨g2, k, none⟩ = some (.int .i64 x) := by
  obtain ⟨A1, c1, rfl, _, _⟩ := own_form h.1
  obtain ⟨A2, c2, rfl, _, _⟩ := own_form h.2.1
  have s1 := Sl.of_own h.1
  have s2 := Sl.of_own h.2.1
  have hl : (iv l).length = n := by have := s1.len; omega
  have hof : ∀ {A : Option Addr} {c : Nat}, W.ownsRow w0.heap.size 3 1 (.slice A n c) n (iv l) → ∃ g, A = some ⟨g, 0, none⟩ := by
    intro A c ho
    rcases ho.2 with ⟨hv, h0⟩ | ⟨g, cap, cur, hv, _⟩
    · omega
    · injection hv with hv
      exact ⟨g, hv⟩
  obtain ⟨g1, rfl⟩ := hof h.1
  obtain ⟨g2, rfl⟩ := hof h.2.1
  refine ⟨g1, c1, g2, c2, rfl, rfl, fun k hk => ?_⟩
  have hk' : k < l.length := by unfold iv at hl; rw [List.length_map] at hl; omega
  have hx : (iv l)[k]? = some (.int .i64 l[k]) := by unfold iv; simp [hk']
  obtain ⟨b1, o1, e1, _, k1⟩ := s1.cells hx
  obtain ⟨b2, o2, e2, _, k2⟩ := s2.cells hx
  injection e1 with e1
  injection e1 with e1 e1' e1''
  injection e2 with e2
  injection e2 with e2 e2' e2''
  subst e1 e1' e2 e2'
  rw [Nat.zero_add] at k1 k2
  exact ⟨l[k], k1, k2⟩
theorem wp_world {P : Program} {c : Code} {Q : Exit → Act → World → Prop} {a : Act} {w : World} (R : World → Prop) (h : R w) (k : ∀ w', R w' → c.wp P Q a w') : c.wp P Q a w := k w h
set_option maxRecDepth 20000 in
set_option maxHeartbeats 1000000 in
theorem names_walk (w : World) : Calls Try.prog 3 #[] w fun e w' => e = .returned (.bool true) ∧ Below w.heap.size w w' := by
  go_enter Try.func3, Try.ntmps3
  go_wp2_with fail
  go_loopw [2] (fun i wr => ∃ k : Nat, k ≤ 12 ∧ i = .int .i64 k ∧ wr = w.alloc (.cells #[.int .i64 0, .int .i64 1, .int .i64 2, .int .i64 3, .int .i64 4, .int .i64 5, .int .i64 6, .int .i64 7, .int .i64 8, .int .i64 9, .int .i64 10, .int .i64 11] 22)) (fun i _ => 12 - (intOf i).toNat)
  case atStart => exact ⟨0, Nat.zero_le _, rfl, rfl⟩
  case round =>
    obtain ⟨k, hk, rfl, rfl⟩ := hrel
    by_cases hlt : k < 12
    · have hc : (w.alloc (.cells #[.int .i64 0, .int .i64 1, .int .i64 2, .int .i64 3, .int .i64 4, .int .i64 5, .int .i64 6, .int .i64 7, .int .i64 8, .int .i64 9, .int .i64 10, .int .i64 11] 22)).cell? ⟨w.heap.size, k, none⟩ = some (.int .i64 k) := by
        obtain rfl | rfl | rfl | rfl | rfl | rfl | rfl | rfl | rfl | rfl | rfl | rfl : k = 0 ∨ k = 1 ∨ k = 2 ∨ k = 3 ∨ k = 4 ∨ k = 5 ∨ k = 6 ∨ k = 7 ∨ k = 8 ∨ k = 9 ∨ k = 10 ∨ k = 11 := by omega
        all_goals simp [go_sem]
      have i0 : (0 : Int) ≤ (k : Int) := by omega
      have i1 : (k : Int) < 12 := by omega
      go_wp2_with fail
      go_roundw
      case rel => exact ⟨k + 1, by omega, by go_num, by first | rfl | trivial⟩
      case measure => simp [intOf]; omega
    · obtain rfl : k = 12 := by omega
      go_upto_region 9 with (fail)
      refine wp_world (fun W => Two w W (.slice (some ⟨w.heap.size + 1, 0, none⟩) 31 31) (.slice (some ⟨w.heap.size + 1 + 1, 0, none⟩) 31 31) 31 31 a31 a31) (Two.start w _ _ _ 31 31 a31 a31 rfl rfl (by decide) rfl rfl (by decide)) ?_
      intro W1 h1
      have H1 := Lib.hid h1
      have z1 := h1.off
      clear h1
      go_upto_region 10 with (refine wpList_append_sl el_int rfl _ _ rfl rfl (H1.out.1.alloc _) rfl (Sl.of_own (own_lit (base := W1.heap.size) 28 a28 _ rfl rfl (by omega) (by decide))) (iv_one a28) (by intro h; cases h) (by decide) (by decide) (by simp; omega) ?_; intro A2 c2 W2 o2 g2 _; have H2 := Lib.hid (H1.out.step g2 o2).symm; have z2 := H2.out.off; clear o2 g2 H1 z1)
      go_upto_region 11 with (refine wpList_append_sl el_int rfl _ _ rfl rfl (H2.out.1.alloc _) rfl (Sl.of_own (own_lit (base := W2.heap.size) 28 a28 _ rfl rfl (by omega) (by decide))) (iv_one a28) (by intro h; cases h) (by decide) (by decide) (by simp; omega) ?_; intro A3 c3 W3 o3 g3 _; have H3 := Lib.hid (H2.out.step g3 o3).symm; have z3 := H3.out.off; clear o3 g3 H2 z2)
      go_upto_region 12 with (refine wpList_append_sl el_int rfl _ _ rfl rfl (H3.out.1.alloc _) rfl (Sl.of_own (own_lit (base := W3.heap.size) 25 a25 _ rfl rfl (by omega) (by decide))) (iv_one a25) (by intro h; cases h) (by decide) (by decide) (by simp; omega) ?_; intro A4 c4 W4 o4 g4 _; have H4 := Lib.hid (H3.out.step g4 o4).symm; have z4 := H4.out.off; clear o4 g4 H3 z3)
      go_upto_region 13 with (refine wpList_append_sl el_int rfl _ _ rfl rfl (H4.out.1.alloc _) rfl (Sl.of_own (own_lit (base := W4.heap.size) 25 a25 _ rfl rfl (by omega) (by decide))) (iv_one a25) (by intro h; cases h) (by decide) (by decide) (by simp; omega) ?_; intro A5 c5 W5 o5 g5 _; have H5 := Lib.hid (H4.out.step g5 o5).symm; have z5 := H5.out.off; clear o5 g5 H4 z4)
      obtain ⟨g1, d1, g2, d2, e1, e2, hc⟩ := H5.out.cells (by decide)
      injection e1 with e1a e1b e1c
      injection e2 with e2a e2b e2c
      subst e1a e1c e2a e2c
      have HC := Lib.hid hc
      have HB := Lib.hid H5.out.2.2.2
      clear hc H5 e1b e2b
      go_wp2_with fail
      go_loopw [5] (fun i wr => ∃ k : Nat, k ≤ 84 ∧ i = .int .i64 k ∧ ∃ d, wr = W5.drewN d) (fun i _ => 84 - (intOf i).toNat)
      case atStart => exact ⟨0, Nat.zero_le _, rfl, 0, rfl⟩
      case round =>
        obtain ⟨k, hk, rfl, d, rfl⟩ := hrel
        by_cases hlt : k < 84
        · obtain ⟨x, x1, x2⟩ := HC.out k (by omega)
          have i0 : (0 : Int) ≤ (k : Int) := by omega
          have i1 : (k : Int) < 84 := by omega
          go_wp2_with fail
          go_quiet (fail)
          go_wp2_with fail
          go_roundw
          case rel => exact ⟨k + 1, by omega, by go_num, _, rfl⟩
          case measure => simp [intOf]; omega
        · obtain rfl : k = 84 := by omega
          go_wp2_with fail
          go_ret
          exact ⟨rfl, below_drewN HB.out _⟩
theorem names_run (W : World) (base : Nat) :
    Calls Try.prog 3 #[] W fun e W' => e = .returned (.bool true) ∧ Below W.heap.size W W' := names_walk W
end Go.Proofs.Ytdofgjpgppaghaa

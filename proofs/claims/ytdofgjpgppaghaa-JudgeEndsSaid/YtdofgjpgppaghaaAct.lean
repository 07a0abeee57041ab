/- Actions and courses: copies, equality. -/
import Derived.Test.YtdofgjpgppaghaaFlat
import Derived.Test.YtdofgjpgppaghaaRule
import Derived.Laws.StructEq
import Derived.Lib.SliceRun
import Derived.Deep.RegionHeld3
namespace Go.Proofs.Ytdofgjpgppaghaa
open Go.RowKit
set_option linter.unusedSimpArgs false
set_option linter.unusedVariables false
structure Action where
  kind : Int
  text : ByteArray
  flags : Int
def Action.enc (a : Action) : List Value := [.int .i64 a.kind, .string a.text, .int .i64 a.flags]
def actF : Flat Action := ⟨3, Action.enc, fun _ => rfl, fun x u hu => by
  simp only [Action.enc, List.mem_cons, List.not_mem_nil, or_false] at hu
  rcases hu with rfl | rfl | rfl <;> rfl, by decide⟩
theorem el_act : Elem Try.prog 40 73 actF.k 32 := ⟨Try.underlying40, by kernel_rfl, by decide⟩

theorem act_cells {w : World} {D : Nat → Prop} {A : Option Addr} {n c : Nat} {l : List Action} (h : RF actF w D (.slice A n c) l) {i : Nat} (hi : i < n) :
    ∃ b off x, A = some ⟨b, off, none⟩ ∧ D b ∧ l[i]? = some x ∧ w.cell? ⟨b, off + i * 3, none⟩ = some (.int .i64 x.kind) ∧ w.cell? ⟨b, off + i * 3 + 1, none⟩ = some (.string x.text) ∧ w.cell? ⟨b, off + i * 3 + 2, none⟩ = some (.int .i64 x.flags) := by
  obtain ⟨b, off, x, e, hb, hx, hc⟩ := h.at_ hi
  exact ⟨b, off, x, e, hb, hx, hc 0 _ rfl, hc 1 _ rfl, hc 2 _ rfl⟩

set_option maxRecDepth 20000 in
theorem ActionsCopy_any (v : Value) (l : List Action) (w : World) (h : RF actF w (· < w.heap.size) v l) (hl : l.length ≤ 1000) :
    Calls Try.prog 55 #[v] w fun e w' => ∃ r, e = .returned r ∧ RF actF w' (New w w') r l ∧ Below w.heap.size w w' := by
  obtain ⟨A, c, rfl, h⟩ := h.ex
  have HS := Lib.hid h
  clear h
  go_enter Try.func55, Try.ntmps55
  go_wp2_with fail
  go_loopw [3, 4] (fun v i wr => ∃ k : Nat, k ≤ l.length ∧ i = .int .i64 k ∧ Below w.heap.size w wr ∧ wr.ownsRow w.heap.size 73 actF.k v k ((l.take k).flatMap actF.enc))
    (fun _ i _ => l.length - (intOf i).toNat)
  case atStart => exact ⟨0, Nat.zero_le _, rfl, Below.refl _ _, World.ownsRow_nil _ _ _ _⟩
  case round =>
    obtain ⟨k, hk, rfl, hb, hown⟩ := hrel
    have HO := Lib.hid hown
    clear hown
    by_cases hlt : k < l.length
    · obtain ⟨b, off, x, rfl, hDb, hx, c0, c1, c2⟩ := act_cells HS.out hlt
      have e0 := (hb.cell (p := ⟨b, off + k * 3, none⟩) hDb).trans c0
      have e1 := (hb.cell (p := ⟨b, off + k * 3 + 1, none⟩) hDb).trans c1
      have e2 := (hb.cell (p := ⟨b, off + k * 3 + 2, none⟩) hDb).trans c2
      have HT := Lib.hid (show l.take (k + 1) = l.take k ++ [x] by rw [List.take_add_one, hx]; rfl)
      clear c0 c1 c2 hx
      go_wp2_with (refine wpList_append_sl el_act rfl _ _ rfl rfl (HO.out.alloc _) rfl (Sl.new _ _ _ 3 rfl) (actF.one x) (by simp) (by unfold maxLen; omega) (by omega) (by have := hb.size; simp; omega) ?_; intro A1 c1 w1 hown' hgr hb1)
      go_roundw
      case rel =>
        refine ⟨k + 1, by omega, by go_num, (hb.alloc hb.size _).trans hb1, ?_⟩
        rw [HT.out, List.flatMap_append]
        exact hown'
      case measure => simp [intOf]; omega
    · have hks : k = l.length := by omega
      subst hks
      go_wp2_with fail
      go_ret
      have ho := HO.out
      rw [List.take_length] at ho
      exact ⟨_, rfl, RF.of_own rfl ho, hb⟩

set_option maxRecDepth 20000 in
theorem sameActions_yes (v v' : Value) (l : List Action) (w : World) (h : RF actF w (· < w.heap.size) v l) (h' : RF actF w (· < w.heap.size) v' l) :
    Calls Try.prog 25 #[v, v'] w fun e w' => e = .returned (.bool true) ∧ Below w.heap.size w w' := by
  have hm := h.bound
  unfold maxLen at hm
  obtain ⟨A, c, rfl, h⟩ := h.ex
  obtain ⟨A', c', rfl, h'⟩ := h'.ex
  have HS := Lib.hid (And.intro h h')
  clear h h'
  go_enter Try.func25, Try.ntmps25
  go_wp2_with fail
  go_loopw [5] (fun i wr => ∃ k : Nat, k ≤ l.length ∧ i = .int .i64 k ∧ Below w.heap.size w wr) (fun i _ => l.length - (intOf i).toNat)
  case atStart => exact ⟨0, Nat.zero_le _, rfl, Below.refl _ _⟩
  case round =>
    obtain ⟨k, hk, rfl, hb⟩ := hrel
    by_cases hlt : k < l.length
    · obtain ⟨b, off, x, rfl, hDb, hx, c0, c1, c2⟩ := act_cells HS.out.1 hlt
      obtain ⟨b', off', x', rfl, hDb', hx', c0', c1', c2'⟩ := act_cells HS.out.2 hlt
      rw [hx] at hx'
      injection hx' with hx'
      subst hx'
      have e0 := (hb.cell (p := ⟨b, off + k * 3, none⟩) hDb).trans c0
      have e1 := (hb.cell (p := ⟨b, off + k * 3 + 1, none⟩) hDb).trans c1
      have e2 := (hb.cell (p := ⟨b, off + k * 3 + 2, none⟩) hDb).trans c2
      have e0' := (hb.cell (p := ⟨b', off' + k * 3, none⟩) hDb').trans c0'
      have e1' := (hb.cell (p := ⟨b', off' + k * 3 + 1, none⟩) hDb').trans c1'
      have e2' := (hb.cell (p := ⟨b', off' + k * 3 + 2, none⟩) hDb').trans c2'
      clear c0 c1 c2 hx c0' c1' c2'
      have i0 : (0 : Int) ≤ k := by omega
      have i1 : (k : Int) < l.length := by omega
      go_wp2_with fail
      go_quiet (fail)
      go_wp2_with fail
      go_roundw
      case rel => exact ⟨k + 1, by omega, by go_num, below_drewN hb _⟩
      case measure => simp [intOf]; omega
    · go_wp2_with fail
      go_ret
      exact ⟨rfl, hb⟩

set_option maxRecDepth 20000 in
theorem cloneAct_any (v : Value) (l : List Action) (w : World) (h : RF actF w (· < w.heap.size) v l) (hl : l.length * 32 ≤ 140737488355328) :
    Calls Try.prog 54 #[v] w fun e w' => ∃ v', e = .returned v' ∧ RF actF w' (New w w') v' l ∧ Below w.heap.size w w' := by
  obtain ⟨A, c, rfl, h⟩ := h.ex
  have h4 := h.cap.2.2.2
  have h5 := h.sl
  have hm := h.bound
  rcases A with _ | ad
  · have h0 : l = [] := by
      rcases l with _ | ⟨x, l⟩
      · rfl
      · obtain ⟨_, _, e', _⟩ := h5.2 (by simp)
        cases e'
    subst h0
    have hc0 := h4 rfl
    subst hc0
    clear h4 h5 h
    have heq := fun wx : World => Lib.run_eql_slice_nil (P := Try.prog) wx 40 73 none 0 0 0 0 Try.underlying40
    go_enter Try.func54, Try.ntmps54
    go_wp2
    go_ret
    exact ⟨_, rfl, RF.nil, Below.refl _ _⟩
  · have HS := Lib.hid (h5.keep (Keeps.alloc (fun b hb => hb) (.cells #[] 73)))
    clear h4 h5 h
    have heq := fun wx : World => Lib.run_eql_slice_nil (P := Try.prog) wx 40 73 (some ad) l.length c 0 0 Try.underlying40
    go_enter Try.func54, Try.ntmps54
    go_wp2_with (refine wpList_append_sl el_act rfl _ _ rfl rfl (World.ownsRow_made w #[] 0 (Nat.le_refl _) (by decide) rfl) rfl HS.out (actF.ones l) (by simp) (by omega) (by omega) (by simp) ?_; intro A1 c1 w1 hown1 hgr1 hb1)
    go_ret
    rw [Nat.zero_add, List.nil_append] at hown1
    exact ⟨_, rfl, RF.of_own rfl hown1, ((Below.refl _ _).alloc (Nat.le_refl _) _).trans hb1⟩

/-- a course -/
structure Course where
  acts : List Action
  flags : Int
  asked : Bool
  fault : Int
def courseErr (n : Nat) (fl : Int) : Int := if n ≤ 6 ∧ 0 ≤ fl ∧ fl ≤ 31 then 0 else 11

theorem checkCourse_any (A : Option Addr) (n c : Nat) (fl fa : Int) (ak : Bool) (w : World) (hn : n ≤ maxLen) :
    Calls Try.prog 38 #[.agg #[.slice A n c, .int .i64 fl, .bool ak, .int .i64 fa]] w fun e w' => e = .returned (.int .i64 (courseErr n fl)) ∧ Below w.heap.size w w' := by
  unfold maxLen at hn
  have hc : n > 6 ∨ n ≤ 6 ∧ fl < 0 ∨ n ≤ 6 ∧ 0 ≤ fl ∧ 31 < fl ∨ n ≤ 6 ∧ 0 ≤ fl ∧ fl ≤ 31 := by omega
  rcases hc with h | ⟨h, h1⟩ | ⟨h, h1, h2⟩ | ⟨h, h1, h2⟩
  all_goals
    go_enter Try.func38, Try.ntmps38
    go_wp2
    go_ret
    exact ⟨ret_int (by unfold courseErr; first | rw [if_pos (by omega)] | rw [if_neg (by omega)]), (Below.refl _ _).alloc (Nat.le_refl _) _⟩
theorem CourseFault_any (A : Option Addr) (n c : Nat) (fl fa : Int) (ak : Bool) (w : World) (hn : n ≤ maxLen) :
    Calls Try.prog 40 #[.agg #[.slice A n c, .int .i64 fl, .bool ak, .int .i64 fa]] w fun e w' => e = .returned (.int .i64 (courseErr n fl)) ∧ Below w.heap.size w w' := by
  unfold maxLen at hn
  have hc : n > 6 ∨ n ≤ 6 ∧ fl < 0 ∨ n ≤ 6 ∧ 0 ≤ fl ∧ 31 < fl ∨ n ≤ 6 ∧ 0 ≤ fl ∧ fl ≤ 31 := by omega
  rcases hc with h | ⟨h, h1⟩ | ⟨h, h1, h2⟩ | ⟨h, h1, h2⟩
  all_goals
    go_enter Try.func40, Try.ntmps40
    go_wp2_with (go_at_call 32; first | (refine (In_yes _ _ _ _ ?_ ?_).mono ?_; omega; omega; rintro e w' ⟨rfl, rfl⟩) | (refine (In_no _ _ _ _ ?_).mono ?_; omega; rintro e w' ⟨rfl, rfl⟩))
    go_ret
    exact ⟨ret_int (by unfold courseErr; first | rw [if_pos (by omega)] | rw [if_neg (by omega)]), (Below.refl _ _).alloc (Nat.le_refl _) _⟩

set_option maxRecDepth 20000 in
set_option maxHeartbeats 1000000 in
theorem courses_any (v : Value) (l : List Action) (fl fa : Int) (ak : Bool) (w : World) (h : RF actF w (· < w.heap.size) v l) (hl : l.length * 32 ≤ 140737488355328) :
    Calls Try.prog 23 #[.agg #[v, .int .i64 fl, .bool ak, .int .i64 fa]] w fun e w' => ∃ v', e = .returned (.agg #[v', .int .i64 fl, .bool ak, .int .i64 fa]) ∧ RF actF w' (New w w') v' l ∧ Below w.heap.size w w' := by
  obtain ⟨A, c, rfl, h⟩ := h.ex
  have hm := h.bound
  have HA := Lib.hid h.cap.2.2.2
  have H := Lib.hid h
  clear h
  go_enter Try.func23, Try.ntmps23
  go_wp2_with (refine wpList_copy_sl el_act rfl _ _ rfl rfl (w.heap.size + 2) rfl (RF.sl (D := (· < w.heap.size)) (by refine RF.is.to H.out ?_ ?_ <;> first | (intro b hb; first | omega | (simp; omega) | (simp at hb; omega) | (simp at hb ⊢; omega) | (simp [New] at hb; omega) | (simp [New] at hb ⊢; omega) | (simp [New] at hb ⊢; done)) | ((repeat (first | with_reducible exact Keeps.refl _ _ | with_reducible refine Keeps.al' ?_ ?_ _ | with_reducible refine Keeps.st' ?_ ?_ _ | with_reducible refine Keeps.dr' ?_ | with_reducible refine Keeps.drN' ?_)); all_goals (intro b hb; first | omega | (simp; omega) | (simp at hb; omega) | (simp at hb ⊢; omega) | (simp [New] at hb; omega) | (simp [New] at hb ⊢; omega) | (simp [New] at hb ⊢; done))))) (actF.ones l) HA.out (by omega) (by omega) (by simp) ?_; intro A1 c1 w1 hown1 hb1; obtain ⟨k1a, k1b, k1c⟩ := own_at hb1 (b := w.heap.size) (by first | omega | (simp; done) | (simp; omega)); obtain ⟨k2a, k2b, k2c⟩ := own_at hb1 (b := w.heap.size + 1) (by first | omega | (simp; done) | (simp; omega)))
  refine bodyPost_ret (v := .agg #[.slice A1 l.length c1, .int .i64 fl, .bool ak, .int .i64 fa]) (by simp [results, Try.results23, go_sem, k1a, k1c, k2a, k2c]) rfl ⟨_, rfl, ?_, ?_⟩
  · have ho := RF.of_own rfl hown1
    exact (by refine RF.is.to ho ?_ ?_ <;> first | (intro b hb; first | omega | (simp; omega) | (simp at hb; omega) | (simp at hb ⊢; omega) | (simp [New] at hb; omega) | (simp [New] at hb ⊢; omega) | (simp [New] at hb ⊢; done)) | ((repeat (first | with_reducible exact Keeps.refl _ _ | with_reducible refine Keeps.al' ?_ ?_ _ | with_reducible refine Keeps.st' ?_ ?_ _ | with_reducible refine Keeps.dr' ?_ | with_reducible refine Keeps.drN' ?_)); all_goals (intro b hb; first | omega | (simp; omega) | (simp at hb; omega) | (simp at hb ⊢; omega) | (simp [New] at hb; omega) | (simp [New] at hb ⊢; omega) | (simp [New] at hb ⊢; done))))
  · (repeat (first | with_reducible exact hb1 | with_reducible refine Below.trans ?_ (Below.mono hb1 ?_) | with_reducible exact Below.refl _ _ | with_reducible refine Below.setCell ?_ ?_ _ | with_reducible refine Below.alloc ?_ ?_ _ | with_reducible refine Below.drew ?_ | with_reducible refine below_drewN ?_ _))
    all_goals (first | omega | (simp; done) | (simp; omega))

/-- P7.5 -/
def endOf (l : List Action) (fl fa : Int) (ak : Bool) : List Action := if fa ≠ 0 then [⟨3, ByteArray.empty, 0⟩] else if ak then l else [⟨3, ByteArray.empty, fl⟩]

set_option maxRecDepth 20000 in
theorem end_any (v : Value) (l : List Action) (fl fa : Int) (ak : Bool) (w : World) (g : Nat) (hg : g < w.heap.size) (h : RF actF w (· < w.heap.size) v l) (hl : l.length * 32 ≤ 140737488355328)
    (h0 : w.cell? ⟨g, 0, none⟩ = some v) (h1 : w.cell? ⟨g, 1, none⟩ = some (.int .i64 fl)) (h2 : w.cell? ⟨g, 2, none⟩ = some (.bool ak)) (h3 : w.cell? ⟨g, 3, none⟩ = some (.int .i64 fa)) :
    Calls Try.prog 39 #[.pointer (some ⟨g, 0, none⟩)] w fun e w' => ∃ v', e = .returned v' ∧ RF actF w' (New w w') v' (endOf l fl fa ak) ∧ Below w.heap.size w w' := by
  have H := Lib.hid h
  clear h
  by_cases hf : fa = 0
  · subst hf
    cases ak
    · have HE := Lib.hid (show endOf l fl 0 false = [⟨3, ByteArray.empty, fl⟩] from rfl)
      go_enter Try.func39, Try.ntmps39
      go_wp2_with fail
      rw [HE.out]
      go_ret
      exact ⟨_, rfl, ⟨some ⟨w.heap.size, 0, none⟩, 1, rfl, by simp, by decide, by simp, (Sl.new w #[.int .i64 3, .string ByteArray.empty, .int .i64 fl] 73 3 rfl).mono (fun b hb => by subst hb; simp [New])⟩, (Below.refl _ _).alloc (Nat.le_refl _) _⟩
    · have HE := Lib.hid (show endOf l fl 0 true = l from rfl)
      rw [HE.out]
      go_enter Try.func39, Try.ntmps39
      go_wp2_with (go_at_call 54; refine (cloneAct_any _ l _ H.out hl).mono ?_; rintro e w1 ⟨v', rfl, hr, hb⟩)
      go_ret
      exact ⟨_, rfl, hr, hb⟩
  · have hf' : (fa == 0) = false := by simp [hf]
    have HE := Lib.hid (show endOf l fl fa ak = [⟨3, ByteArray.empty, 0⟩] from if_pos hf)
    clear hf
    go_enter Try.func39, Try.ntmps39
    go_wp2_with fail
    rw [HE.out]
    go_ret
    exact ⟨_, rfl, ⟨some ⟨w.heap.size, 0, none⟩, 1, rfl, by simp, by decide, by simp, (Sl.new w #[.int .i64 3, .string ByteArray.empty, .int .i64 0] 73 3 rfl).mono (fun b hb => by subst hb; simp [New])⟩, (Below.refl _ _).alloc (Nat.le_refl _) _⟩
end Go.Proofs.Ytdofgjpgppaghaa

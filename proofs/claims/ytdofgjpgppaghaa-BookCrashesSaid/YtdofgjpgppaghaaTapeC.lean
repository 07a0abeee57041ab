/- Tapes: open, joined, Sync, TapeSynced. -/
import Derived.Test.YtdofgjpgppaghaaTapeB
namespace Go.Proofs.Ytdofgjpgppaghaa
open Go.RowKit
set_option linter.unusedSimpArgs false
set_option linter.unusedVariables false

set_option maxRecDepth 20000 in
theorem open_yes (v : Value) (sy : Int) (l : List UInt8) (w : World) (D : Nat → Prop) (h : RB w D v l) (hD : ∀ b, D b → b < w.heap.size) (m1 : l.length ≤ 100000) (m2 : 0 ≤ sy) (m3 : sy ≤ l.length) :
    Calls Try.prog 35 #[.agg #[v, .int .i64 sy]] w fun e w' => ∃ v', e = .returned (.tuple #[.agg #[v', .int .i64 sy], .bool true]) ∧ RB w' (New w w') v' l ∧ Below w.heap.size w w' := by
  obtain ⟨A, c, rfl, h2, h3, h4, h5⟩ := h
  have k1 := Keeps.alloc hD (.cells #[.slice A l.length c, .int .i64 sy] 32)
  have k2 := Keeps.alloc (w := w.alloc (.cells #[.slice A l.length c, .int .i64 sy] 32)) (fun b hb => by have := hD b hb; simp; omega) (.cells #[.slice none 0 0, .int .i64 0] 32)
  have HS := Lib.hid (show RB _ D (.slice A l.length c) l from ⟨A, c, rfl, h2, h3, h4, (h5.keep k1).keep k2⟩)
  have HD := Lib.hid (show ∀ b, D b → b < w.heap.size + 2 from fun b hb => by have := hD b hb; omega)
  clear h4 h5 k1 k2 hD
  go_enter Try.func35, Try.ntmps35
  go_wp2_with fail
  go_region_held3 (fun w' => w'.cell? ⟨w.heap.size, 0, none⟩ = some (.slice A l.length c) ∧ w'.cell? ⟨w.heap.size, 1, none⟩ = some (.int .i64 sy))
    (((try dsimp only); (repeat' apply And.intro) <;> (go_keep; done)))
    ((go_at_call 53; refine (cloneB_any _ l _ D (by exact HS.out) (by simpa using HD.out) (by omega)).mono ?_; rintro e w1 ⟨v', rfl, hr, hb⟩; obtain ⟨A1, c1, rfl, g2, g3, g4, g5⟩ := hr; have hb' := hb.mono (show w.heap.size + 2 ≤ _ by simp); obtain ⟨bc1, bf1⟩ := bcell hb'; have HG := Lib.hid (And.intro g4 g5); clear g4 g5))
  go_wp2
  refine bodyPost_ret (v := .tuple #[.agg #[.slice A1 l.length c1, .int .i64 sy], .bool true]) (by simp [results, Try.results35, go_sem, bc1]) rfl ⟨_, rfl, ?_, ?_⟩
  · have hr : RB w1 (fun b => w.heap.size + 2 ≤ b ∧ b < w1.heap.size) (.slice A1 l.length c1) l := ⟨A1, c1, rfl, g2, g3, HG.out.1, HG.out.2.mono fun b hb => ⟨by have := hb.1; simp at this; omega, hb.2⟩⟩
    refine ((hr.keep (Keeps.setCell (p := ⟨w.heap.size + 1, 0, none⟩) (fun b hb => ?_) _)).keep (Keeps.setCell (p := ⟨w.heap.size + 1, 1, none⟩) (fun b hb => ?_) _)).mono fun b hb => ⟨by omega, by simpa using hb.2⟩
    all_goals (have := hb.1; show b ≠ w.heap.size + 1; omega)
  · have hbw : Below w.heap.size w w1 := ((((Below.refl _ _).alloc (Nat.le_refl _) _).alloc (by simp) _).drew).trans (hb'.mono (by omega))
    exact (hbw.setCell (by simp) _).setCell (by simp) _

theorem open_no (A : Option Addr) (n c : Nat) (sy : Int) (w : World) (hn : n ≤ maxLen) (h : ¬ (n ≤ 100000 ∧ 0 ≤ sy ∧ sy ≤ n)) :
    Calls Try.prog 35 #[.agg #[.slice A n c, .int .i64 sy]] w fun e w' => e = .returned (.tuple #[.agg #[.slice none 0 0, .int .i64 0], .bool false]) ∧ Below w.heap.size w w' := by
  unfold maxLen at hn
  have h' : sy < 0 ∨ (0 ≤ sy ∧ (n : Int) < sy) ∨ (0 ≤ sy ∧ sy ≤ n ∧ 100000 < n) := by omega
  clear h
  rcases h' with h1 | ⟨h1, h2⟩ | ⟨h1, h2, h3⟩
  all_goals
    go_enter Try.func35, Try.ntmps35
    go_wp2
    refine bodyPost_ret (v := .tuple #[.agg #[.slice none 0 0, .int .i64 0], .bool false]) (by simp [results, Try.results35, go_sem]) rfl ⟨rfl, ?_⟩
    first | exact (((((Below.refl _ _).alloc (Nat.le_refl _) _).alloc (by simp) _)).setCell (by simp) _).setCell (by simp) _ | exact (((Below.refl _ _).alloc (Nat.le_refl _) _).alloc (by simp) _)

theorem joined_any (v v' : Value) (l l' : List UInt8) (w : World) (D : Nat → Prop) (h : RB w D v l) (h' : RB w D v' l') (hD : ∀ b, D b → b < w.heap.size) (hl : l.length + l'.length ≤ 1000000) :
    Calls Try.prog 37 #[v, v'] w fun e w' => ∃ r, e = .returned r ∧ RB w' (New w w') r (l ++ l') ∧ Below w.heap.size w w' := by
  obtain ⟨A, c, rfl, h2, h3, h4, h5⟩ := h
  obtain ⟨A', c', rfl, h2', h3', h4', h5'⟩ := h'
  have HS := Lib.hid (And.intro h5 h5')
  have HD := Lib.hid hD
  clear h4 h4' h5 h5' hD
  go_enter Try.func37, Try.ntmps37
  go_wp2_with fail
  go_loopw [5, 6] (fun v i wr => ∃ k : Nat, k ≤ l.length ∧ i = .int .i64 k ∧ Below w.heap.size w wr ∧ wr.ownsRow w.heap.size 5 1 v k ((l.take k).map bv))
    (fun _ i _ => l.length - (intOf i).toNat)
  case atStart => exact ⟨0, Nat.zero_le _, rfl, Below.refl _ _, World.ownsRow_nil _ _ _ _⟩
  case round =>
    obtain ⟨k, hk, rfl, hb, hown⟩ := hrel
    have HO := Lib.hid hown
    clear hown
    by_cases hlt : k < l.length
    · obtain ⟨b, off, rfl, hDb, hc⟩ := (HS.out.1).2 (by omega)
      have hx := hc k (bv l[k]) (by simp [hlt])
      have hx' : wr.cell? ⟨b, off + k, none⟩ = some (.int .u8 l[k].toNat) := by rw [hb.cell (p := ⟨b, off + k, none⟩) (HD.out b hDb)]; exact hx
      clear hc hx
      have HT := Lib.hid (show l.take (k + 1) = l.take k ++ [l[k]] by rw [List.take_add_one]; simp [hlt])
      go_wp2_with (refine wpList_append_sl elb rfl _ _ rfl rfl (HO.out.alloc _) rfl (Sl.new _ _ _ 1 rfl) (bvs_one [l[k]]) (by simp) (by unfold maxLen; omega) (by omega) (by have := hb.size; simp; omega) ?_; intro A1 c1 w1 hown' hgr hb1)
      go_roundw
      case rel =>
        refine ⟨k + 1, by omega, by go_num, (hb.alloc hb.size _).trans hb1, ?_⟩
        rw [HT.out, List.map_append]
        exact hown'
      case measure => simp [intOf]; omega
    · have hks : k = l.length := by omega
      subst hks
      have HO2 := Lib.hid (show wr.ownsRow w.heap.size 5 1 _ l.length (l.map bv) by have := HO.out; rw [List.take_length] at this; exact this)
      clear HO
      go_wp2_with fail
      obtain ⟨wo, rfl⟩ : ∃ wo : World, wo = wr := ⟨_, rfl⟩
      go_loopw [5, 7] (fun v i wr => ∃ k : Nat, k ≤ l'.length ∧ i = .int .i64 k ∧ Below w.heap.size w wr ∧ wr.ownsRow w.heap.size 5 1 v (l.length + k) ((l ++ l'.take k).map bv))
        (fun _ i _ => l'.length - (intOf i).toNat)
      case atStart => exact ⟨0, Nat.zero_le _, rfl, hb, by simpa using HO2.out⟩
      case round =>
        obtain ⟨k, hk, rfl, hb, hown⟩ := hrel
        have HO := Lib.hid hown
        clear hown HO2
        by_cases hlt : k < l'.length
        · obtain ⟨b, off, rfl, hDb, hc⟩ := (HS.out.2).2 (by omega)
          have hx := hc k (bv l'[k]) (by simp [hlt])
          have hx' : wr.cell? ⟨b, off + k, none⟩ = some (.int .u8 l'[k].toNat) := by rw [hb.cell (p := ⟨b, off + k, none⟩) (HD.out b hDb)]; exact hx
          clear hc hx
          have HT := Lib.hid (show l ++ l'.take (k + 1) = (l ++ l'.take k) ++ [l'[k]] by rw [List.take_add_one, List.append_assoc]; simp [hlt])
          go_wp2_with (refine wpList_append_sl elb rfl _ _ rfl rfl (HO.out.alloc _) rfl (Sl.new _ _ _ 1 rfl) (bvs_one [l'[k]]) (by simp) (by unfold maxLen; omega) (by omega) (by have := hb.size; simp; omega) ?_; intro A1 c1 w1 hown' hgr hb1)
          go_roundw
          case rel =>
            refine ⟨k + 1, by omega, by go_num, (hb.alloc hb.size _).trans hb1, ?_⟩
            rw [HT.out, List.map_append]
            exact hown'
          case measure => simp [intOf]; omega
        · have hks : k = l'.length := by omega
          subst hks
          go_wp2_with fail
          go_ret
          have ho := HO.out
          rw [List.take_length] at ho
          exact ⟨_, rfl, RB.of_own (by simp) ho, hb⟩

theorem RB_nil (w : World) (D : Nat → Prop) : RB w D (.slice none 0 0) [] := ⟨none, 0, rfl, by simp, by decide, fun _ => rfl, Sl.nil _ _ _ _⟩

end Go.Proofs.Ytdofgjpgppaghaa

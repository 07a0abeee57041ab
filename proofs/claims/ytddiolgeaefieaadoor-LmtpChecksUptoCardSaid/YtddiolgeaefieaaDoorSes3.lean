/- lmtp.Check, walked: P12.1: the steps that know to whom. -/
import Derived.Test.YtddiolgeaefieaaDoorSes2
import Derived.Deep.CutRange
namespace Go.Proofs.YtddiolgeaefieaaDoor
open Go.RowKit
set_option linter.unusedSimpArgs false
set_option linter.unusedVariables false
theorem RF.take {α : Type} {E : Flat α} {w : World} {D : Nat → Prop} {A : Option Addr} {n c k : Nat} {l : List α} (h : RF E w D (.slice A n c) l) (hk : k ≤ n) : RF E w D (.slice A k c) (l.take k) := by
  obtain ⟨hn, h1, h2, h3⟩ := h.cap
  have hs := h.sl
  subst hn
  have hl : (l.take k).length = k := by rw [List.length_take]; omega
  refine ⟨A, c, by rw [hl], by omega, h2, h3, by rw [hl, E.length, hl], fun hp => ?_⟩
  rw [hl] at hp
  obtain ⟨b, off, e, hb, hc⟩ := hs.2 (by omega)
  refine ⟨b, off, e, hb, fun j u hu => hc j u ?_⟩
  have e2 : l.flatMap E.enc = (l.take k).flatMap E.enc ++ (l.drop k).flatMap E.enc := by rw [← List.flatMap_append, List.take_append_drop]
  rw [e2, List.getElem?_append_left (List.getElem?_eq_some_iff.1 hu).1]
  exact hu
theorem two_other (W : World) {B i j : Nat} (x y : Value) {b : Nat} (o : Nat) (hb : b ≠ B) : ((W.setCell ⟨B, i, none⟩ x).setCell ⟨B, j, none⟩ y).cell? ⟨b, o, none⟩ = W.cell? ⟨b, o, none⟩ := by
  rw [World.cell?_setCell_other _ _ _ _ (fun e => hb (congrArg Addr.block e).symm), World.cell?_setCell_other _ _ _ _ (fun e => hb (congrArg Addr.block e).symm)]
theorem two_apart (W : World) {B i j : Nat} (x y : Value) {o : Nat} (h1 : o ≠ i) (h2 : o ≠ j) : ((W.setCell ⟨B, i, none⟩ x).setCell ⟨B, j, none⟩ y).cell? ⟨B, o, none⟩ = W.cell? ⟨B, o, none⟩ := by
  rw [World.cell?_setCell_other _ _ _ _ (fun e => h2 (congrArg Addr.off e).symm), World.cell?_setCell_other _ _ _ _ (fun e => h1 (congrArg Addr.off e).symm)]
theorem two_first (W : World) {B i j : Nat} (x y : Value) (h : i ≠ j) (hs : (W.cell? ⟨B, i, none⟩).isSome = true) : ((W.setCell ⟨B, i, none⟩ x).setCell ⟨B, j, none⟩ y).cell? ⟨B, i, none⟩ = some x := by
  rw [World.cell?_setCell_other _ _ _ _ (fun e => h (congrArg Addr.off e).symm), World.cell?_setCell_same' _ _ _ hs]
theorem two_second (W : World) {B i j : Nat} (x y : Value) (h : i ≠ j) (hs : (W.cell? ⟨B, j, none⟩).isSome = true) : ((W.setCell ⟨B, i, none⟩ x).setCell ⟨B, j, none⟩ y).cell? ⟨B, j, none⟩ = some y := by
  rw [World.cell?_setCell_same' _ _ _ (by rw [World.cell?_setCell_other _ _ _ _ (fun e => h (congrArg Addr.off e))]; exact hs)]
/-- what the loop leaves alone -/
structure SF (w W : World) (step : Int) (fl fd : ByteArray) (v : Value) (text : ByteArray) (large : Bool) (l : List Adr) : Prop where
  s0 : W.cell? ⟨w.heap.size, 0, none⟩ = some (.int .i64 step)
  s1 : W.cell? ⟨w.heap.size, 1, none⟩ = some (.string fl)
  s2 : W.cell? ⟨w.heap.size, 2, none⟩ = some (.string fd)
  s3 : W.cell? ⟨w.heap.size, 3, none⟩ = some v
  s4 : W.cell? ⟨w.heap.size, 4, none⟩ = some (.string text)
  s5 : W.cell? ⟨w.heap.size, 5, none⟩ = some (.bool large)
  z1 : W.cell? ⟨w.heap.size + 1, 1, none⟩ = some (.string fl)
  z2 : W.cell? ⟨w.heap.size + 1, 2, none⟩ = some (.string fd)
  z4 : W.cell? ⟨w.heap.size + 1, 4, none⟩ = some (.string ByteArray.empty)
  z5 : W.cell? ⟨w.heap.size + 1, 5, none⟩ = some (.bool false)
  f4 : W.frozen? ⟨w.heap.size + 1, 4, none⟩ = false
  f5 : W.frozen? ⟨w.heap.size + 1, 5, none⟩ = false
  lt : w.heap.size + 1 < W.heap.size
  bel : Below w.heap.size w W
  rf : RF adrF W (· < W.heap.size) v l
  l0 : Lib0 W
theorem SF.below {w W W' : World} {step : Int} {fl fd : ByteArray} {v : Value} {text : ByteArray} {large : Bool} {l : List Adr} (h : SF w W step fl fd v text large l) (hb : Below W.heap.size W W') : SF w W' step fl fd v text large l := by
  have hlt := h.lt
  have c : ∀ b o, b < W.heap.size → W'.cell? ⟨b, o, none⟩ = W.cell? ⟨b, o, none⟩ := fun b o h => hb.cell (p := ⟨b, o, none⟩) h
  have f : ∀ b o, b < W.heap.size → W'.frozen? ⟨b, o, none⟩ = W.frozen? ⟨b, o, none⟩ := fun b o h => hb.frozen (p := ⟨b, o, none⟩) h
  have hz := hb.size
  constructor
  · rw [c _ _ (by omega)]; exact h.s0
  · rw [c _ _ (by omega)]; exact h.s1
  · rw [c _ _ (by omega)]; exact h.s2
  · rw [c _ _ (by omega)]; exact h.s3
  · rw [c _ _ (by omega)]; exact h.s4
  · rw [c _ _ (by omega)]; exact h.s5
  · rw [c _ _ (by omega)]; exact h.z1
  · rw [c _ _ (by omega)]; exact h.z2
  · rw [c _ _ (by omega)]; exact h.z4
  · rw [c _ _ (by omega)]; exact h.z5
  · rw [f _ _ (by omega)]; exact h.f4
  · rw [f _ _ (by omega)]; exact h.f5
  · omega
  · exact h.bel.trans (hb.mono h.bel.size)
  · exact RF.mono (RF.keep h.rf (Keeps.of_below hb)) (fun b hb' => by omega)
  · exact h.l0.below hb
set_option maxRecDepth 20000 in
set_option maxHeartbeats 2000000 in
theorem lmtpCheck_34 (s : Ses) (v : Value) (w : World) (h : RF adrF w (· < w.heap.size) v s.tos) (hs : s.step = 3 ∨ s.step = 4) (h5 : s.tos.length ≤ 5) (hz : s.text.size ≤ 2000) (hf : s.fr.l.size ≤ 1048576 ∧ s.fr.d.size ≤ 1048576) (ht : ∀ a ∈ s.tos, AdrOk a) (h0 : Lib0 w) :
    Calls Tryd.prog 19 #[s.val v] w fun e w' => e = .returned (.int .i64 (sesE s)) ∧ Below w.heap.size w w' := by
  obtain ⟨A, c, rfl, h⟩ := h.ex
  have hm := h.bound
  unfold maxLen at hm
  have H := Lib.hid h
  clear h
  have HO := Lib.hid (fun hh => sesE_no (s := s) hh)
  have HY := Lib.hid (fun hh => sesE_ok (s := s) hh)
  have HC := Lib.hid (fun wx hx => whoCheck_any s.fr wx hf hx)
  have H0 := Lib.hid h0
  clear h0 hf
  by_cases ha : addrE s.fr = 0
  · rw [ha] at HC
    have HA := Lib.hid ha
    clear ha
    obtain ⟨step, ⟨fl, fd⟩, tos, text, large⟩ := s
    unfold Ses.val
    dsimp only at *
    have s3 : 3 ≤ step := by omega
    have s4 : step ≤ 4 := by omega
    have HT := Lib.hid ht
    have HS := Lib.hid hs
    clear ht hs
    unfold Adr.val at HC
    dsimp only at HC
    go_enter Tryd.func19, Tryd.ntmps19
    go_wp2_with fail
    refine (HC.out _ ?_).mono ?_
    · exact H0.out.below ((Below.alloc (Below.refl _ _) (Nat.le_refl _) _).alloc (by simp) _)
    rintro e w1 ⟨rfl, hb1⟩
    obtain ⟨k1a, k1b, k1c⟩ := own_at hb1 (b := w.heap.size) (by first | omega | (simp; done) | (simp; omega)); obtain ⟨k2a, k2b, k2c⟩ := own_at hb1 (b := w.heap.size + 1) (by first | omega | (simp; done) | (simp; omega)); have z3 := hb1.size; (try simp only [World.size_alloc, World.size_setCell] at z3)
    go_wp2_with fail
    refine wp_world (fun W => SF w W step fl fd (.slice A tos.length c) text large tos) ?_ ?_
    · have hbw : Below w.heap.size w w1 := (((Below.refl _ w).alloc (Nat.le_refl _) _).alloc (by simp) _).trans (hb1.mono (by simp; omega))
      have hlib : Lib0 w1 := (H0.out.below ((Below.alloc (Below.refl _ _) (Nat.le_refl _) _).alloc (by simp) _)).below hb1
      have hrf : RF adrF w1 (· < w.heap.size) (.slice A tos.length c) tos := RF.keep H.out (Keeps.of_below hbw)
      constructor
      · rw [two_other _ _ _ _ (by omega), k1a]; simp [go_sem]
      · rw [two_other _ _ _ _ (by omega), k1a]; simp [go_sem]
      · rw [two_other _ _ _ _ (by omega), k1a]; simp [go_sem]
      · rw [two_other _ _ _ _ (by omega), k1a]; simp [go_sem]
      · rw [two_other _ _ _ _ (by omega), k1a]; simp [go_sem]
      · rw [two_other _ _ _ _ (by omega), k1a]; simp [go_sem]
      · rw [two_first _ _ _ (by omega) (by rw [k2a]; simp [go_sem])]
      · rw [two_second _ _ _ (by omega) (by rw [k2a]; simp [go_sem])]
      · rw [two_apart _ _ _ (by omega) (by omega), k2a]; simp [go_sem]; rfl
      · rw [two_apart _ _ _ (by omega) (by omega), k2a]; simp [go_sem]
      · rw [World.frozen?_setCell, World.frozen?_setCell, k2b]; simp [go_sem]
      · rw [World.frozen?_setCell, World.frozen?_setCell, k2b]; simp [go_sem]
      · simp; omega
      · exact (hbw.setCell (by simp) _).setCell (by simp) _
      · exact RF.mono (RF.keep (RF.keep hrf (Keeps.setCell (fun b hb => by simp; omega) _)) (Keeps.setCell (fun b hb => by simp; omega) _)) (fun b hb => by simp; omega)
      · exact Lib0.below H0.out (((hbw.setCell (by simp) _).setCell (by simp) _).mono (Nat.le_refl _))
    intro W0 hW0
    have HW0 := Lib.hid hW0
    clear hW0 k1a k1b k1c k2a k2b k2c z3 hb1
    go_loopw [55] (fun i wr => ∃ k : Nat, k ≤ tos.length ∧ i = .int .i64 k ∧ SF w wr step fl fd (.slice A tos.length c) text large tos ∧ ∀ (j : Nat) a, j < k → tos[j]? = some a → addrE a = 0 ∧ inB (tos.take j) a = false) (fun i _ => tos.length - (intOf i).toNat)
    case atStart => exact ⟨0, Nat.zero_le _, rfl, HW0.out, fun j a hj => by omega⟩
    case round =>
      obtain ⟨k, hk, rfl, hsf, hgd⟩ := hrel
      have HG := Lib.hid hgd
      have HSF := Lib.hid hsf
      have c0 := hsf.s0
      have c3 := hsf.s3
      have c1 := hsf.s1
      have c2 := hsf.s2
      have c4 := hsf.s4
      have c5 := hsf.s5
      have e1 := hsf.z1
      have e2 := hsf.z2
      have e4 := hsf.z4
      have e5 := hsf.z5
      have f4 := hsf.f4
      have f5 := hsf.f5
      have hlt0 := hsf.lt
      clear hgd hsf
      by_cases hlt : k < tos.length
      · obtain ⟨b, off, x, rfl, hbl, hx, hc0, hc1⟩ := adr_cell HSF.out.rf hlt
        have HX := Lib.hid hx
        have hxok := HT.out x (List.mem_of_getElem? hx)
        have HCX := Lib.hid (fun wx hl => whoCheck_any x wx ⟨hxok.hl, hxok.hd⟩ hl)
        have HIN := Lib.hid (fun wx v hl => adrContains_any v (tos.take k) x wx hl)
        clear hx hxok
        have i0 : (0 : Int) ≤ k := by omega
        have i1 : (k : Int) < tos.length := by omega
        have icap : tos.length ≤ c := HSF.out.rf.cap.2.1
        have hbn : b ≠ wr.heap.size := by omega
        have ikc : (k : Int) ≤ c := by omega
        by_cases hxa : addrE x = 0
        · rw [hxa] at HCX
          cases hin : inB (tos.take k) x
          · rw [hin] at HIN
            have HXA := Lib.hid hxa
            have HII := Lib.hid hin
            clear hxa hin
            obtain ⟨xl, xd⟩ := x
            unfold Adr.val at HCX HIN
            dsimp only at hc0 hc1 HCX HIN
            go_wp2_with fail
            go_region_held3 (fun w' => w'.cell? ⟨wr.heap.size, 0, none⟩ = some (.string xl) ∧ w'.cell? ⟨wr.heap.size, 1, none⟩ = some (.string xd) ∧ w'.cell? ⟨w.heap.size, 3, none⟩ = some (.slice (some ⟨b, off, none⟩) tos.length c)) (((try dsimp only); (repeat' apply And.intro) <;> (go_keep; done))) (first | (go_at_call 15; refine (HCX.out _ ?_).mono ?_; exact HSF.out.l0.below (Below.alloc (Below.refl _ _) (Nat.le_refl _) _).drew; rintro e wq ⟨rfl, hq1⟩; obtain ⟨k4a, k4b, k4c⟩ := own_at hq1 (b := wr.heap.size) (by first | omega | (simp; done) | (simp; omega)); obtain ⟨k5a, k5b, k5c⟩ := own_at hq1 (b := w.heap.size) (by first | omega | (simp; done) | (simp; omega)); have z6 := hq1.size; (try simp only [World.size_alloc, World.size_setCell] at z6)) | (go_at_call 50; refine (HIN.out _ _ ?_).mono ?_; exact (by refine RF.is.to (HSF.out.rf.take (k := k) (by omega)) ?_ ?_ <;> first | (intro b hb; first | omega | (simp; omega) | (simp at hb; omega) | (simp at hb ⊢; omega) | (simp [New] at hb; omega) | (simp [New] at hb ⊢; omega) | (simp [New] at hb ⊢; done)) | ((repeat (first | with_reducible refine Keeps.bl' ?_ hq1 ?_ | with_reducible exact Keeps.refl _ _ | with_reducible refine Keeps.al' ?_ ?_ _ | with_reducible refine Keeps.st' ?_ ?_ _ | with_reducible refine Keeps.dr' ?_ | with_reducible refine Keeps.drN' ?_)); all_goals (intro b hb; first | omega | (simp; omega) | (simp at hb; omega) | (simp at hb ⊢; omega) | (simp [New] at hb; omega) | (simp [New] at hb ⊢; omega) | (simp [New] at hb ⊢; done)))); rintro e wq2 ⟨rfl, hq2⟩; obtain ⟨k7a, k7b, k7c⟩ := own_at hq2 (b := wr.heap.size) (by first | omega | (simp; done) | (simp; omega)); obtain ⟨k8a, k8b, k8c⟩ := own_at hq2 (b := w.heap.size) (by first | omega | (simp; done) | (simp; omega)); have z9 := hq2.size; (try simp only [World.size_alloc, World.size_setCell] at z9)))
            go_wp2_with fail
            go_roundw
            case rel =>
              refine ⟨k + 1, by omega, by go_num, HSF.out.below ?_, fun j a hj hja => ?_⟩
              · (repeat (first | with_reducible exact hq2 | with_reducible refine Below.trans ?_ (Below.mono hq2 ?_) | with_reducible exact hq1 | with_reducible refine Below.trans ?_ (Below.mono hq1 ?_) | with_reducible exact Below.refl _ _ | with_reducible refine Below.setCell ?_ ?_ _ | with_reducible refine Below.alloc ?_ ?_ _ | with_reducible refine Below.drew ?_ | with_reducible refine below_drewN ?_ _))
                all_goals (first | omega | (simp; done) | (simp; omega))
              · by_cases e : j = k
                · subst e
                  rw [HX.out] at hja
                  injection hja with hja
                  subst hja
                  exact ⟨HXA.out, HII.out⟩
                · exact HG.out j a (by omega) hja
            case measure => simp [intOf]; omega
          · rw [hin] at HIN
            have HF := Lib.hid (HO.out fun hh => by
              have := ((hh.to1 s3 s4).2 k x HX.out).2
              rw [this] at hin; cases hin)
            clear hxa hin HO HY
            obtain ⟨xl, xd⟩ := x
            unfold Adr.val at HCX HIN
            dsimp only at hc0 hc1 HCX HIN
            go_wp2_with fail
            go_region_held3 (fun w' => w'.cell? ⟨wr.heap.size, 0, none⟩ = some (.string xl) ∧ w'.cell? ⟨wr.heap.size, 1, none⟩ = some (.string xd) ∧ w'.cell? ⟨w.heap.size, 3, none⟩ = some (.slice (some ⟨b, off, none⟩) tos.length c)) (((try dsimp only); (repeat' apply And.intro) <;> (go_keep; done))) (first | (go_at_call 15; refine (HCX.out _ ?_).mono ?_; exact HSF.out.l0.below (Below.alloc (Below.refl _ _) (Nat.le_refl _) _).drew; rintro e wq ⟨rfl, hq1⟩; obtain ⟨k10a, k10b, k10c⟩ := own_at hq1 (b := wr.heap.size) (by first | omega | (simp; done) | (simp; omega)); obtain ⟨k11a, k11b, k11c⟩ := own_at hq1 (b := w.heap.size) (by first | omega | (simp; done) | (simp; omega)); have z12 := hq1.size; (try simp only [World.size_alloc, World.size_setCell] at z12)) | (go_at_call 50; refine (HIN.out _ _ ?_).mono ?_; exact (by refine RF.is.to (HSF.out.rf.take (k := k) (by omega)) ?_ ?_ <;> first | (intro b hb; first | omega | (simp; omega) | (simp at hb; omega) | (simp at hb ⊢; omega) | (simp [New] at hb; omega) | (simp [New] at hb ⊢; omega) | (simp [New] at hb ⊢; done)) | ((repeat (first | with_reducible refine Keeps.bl' ?_ hq1 ?_ | with_reducible exact Keeps.refl _ _ | with_reducible refine Keeps.al' ?_ ?_ _ | with_reducible refine Keeps.st' ?_ ?_ _ | with_reducible refine Keeps.dr' ?_ | with_reducible refine Keeps.drN' ?_)); all_goals (intro b hb; first | omega | (simp; omega) | (simp at hb; omega) | (simp at hb ⊢; omega) | (simp [New] at hb; omega) | (simp [New] at hb ⊢; omega) | (simp [New] at hb ⊢; done)))); rintro e wq2 ⟨rfl, hq2⟩; obtain ⟨k13a, k13b, k13c⟩ := own_at hq2 (b := wr.heap.size) (by first | omega | (simp; done) | (simp; omega)); obtain ⟨k14a, k14b, k14c⟩ := own_at hq2 (b := w.heap.size) (by first | omega | (simp; done) | (simp; omega)); have z15 := hq2.size; (try simp only [World.size_alloc, World.size_setCell] at z15)))
            go_wp2_with fail
            go_ret
            refine ⟨by rw [HF.out]; rfl, HSF.out.bel.trans (Below.mono ?_ HSF.out.bel.size)⟩
            (repeat (first | with_reducible exact hq2 | with_reducible refine Below.trans ?_ (Below.mono hq2 ?_) | with_reducible exact hq1 | with_reducible refine Below.trans ?_ (Below.mono hq1 ?_) | with_reducible exact Below.refl _ _ | with_reducible refine Below.setCell ?_ ?_ _ | with_reducible refine Below.alloc ?_ ?_ _ | with_reducible refine Below.drew ?_ | with_reducible refine below_drewN ?_ _))
            all_goals (first | omega | (simp; done) | (simp; omega))
        · have HF := Lib.hid (HO.out fun hh => hxa ((hh.to1 s3 s4).2 k x HX.out).1)
          have hxc : addrE x = 1 ∨ addrE x = 3 := by have := addrE_cases x; omega
          clear HO HY hxa
          obtain ⟨xl, xd⟩ := x
          unfold Adr.val at HCX HIN
          dsimp only at hc0 hc1 HCX HIN
          rcases hxc with hxc | hxc
          all_goals
            rw [hxc] at HCX
            clear hxc
            go_wp2_with fail
            go_cut [70] from 60 to 71 (fun t w' => t = .bool true ∧ Below wr.heap.size wr w')
            case rest =>
              obtain ⟨rfl, hq⟩ := hcut
              have HQ := Lib.hid hq
              clear hq
              go_wp2_with fail
              go_ret
              exact ⟨by rw [HF.out]; rfl, HSF.out.bel.trans (HQ.out.mono HSF.out.bel.size)⟩
            case first =>
              first | (go_region_with (go_at_call 15; refine (HCX.out _ ?_).mono ?_; exact HSF.out.l0.below (Below.alloc (Below.refl _ _) (Nat.le_refl _) _).drew; rintro e wq ⟨rfl, hq1⟩; obtain ⟨k16a, k16b, k16c⟩ := own_at hq1 (b := wr.heap.size) (by first | omega | (simp; done) | (simp; omega)); obtain ⟨k17a, k17b, k17c⟩ := own_at hq1 (b := w.heap.size) (by first | omega | (simp; done) | (simp; omega)); have z18 := hq1.size; (try simp only [World.size_alloc, World.size_setCell] at z18))) | fail
              all_goals
                go_wp2_with fail
                go_meet
                refine ⟨rfl, ?_⟩
                (repeat (first | with_reducible exact hq1 | with_reducible refine Below.trans ?_ (Below.mono hq1 ?_) | with_reducible exact Below.refl _ _ | with_reducible refine Below.setCell ?_ ?_ _ | with_reducible refine Below.alloc ?_ ?_ _ | with_reducible refine Below.drew ?_ | with_reducible refine below_drewN ?_ _))
                all_goals (first | omega | (simp; done) | (simp; omega))
      · obtain rfl : k = tos.length := by omega
        clear hlt
        by_cases t0 : tos.length = 0
        · have te : tos = [] := List.eq_nil_of_length_eq_zero t0
          subst te
          have HF := Lib.hid (HO.out fun hh => (hh.to1 s3 s4).1 rfl)
          clear HO HY
          go_wp2_with fail
          go_ret
          exact ⟨by rw [HF.out]; rfl, HSF.out.bel⟩
        · have t1 : ((tos.length : Int) == 0) = false := beq_false_of_ne (by omega)
          have t2 : ¬ (tos.length : Int) = 0 := by omega
          have HTO : Hid (tos ≠ [] ∧ toOk tos) := Lib.hid ⟨fun e => t0 (by rw [e]; rfl), toOk_all (Nat.le_refl _) HG.out⟩
          clear t0
          rcases HS.out with rfl | rfl
          · by_cases x0 : text = ByteArray.empty
            · subst x0
              cases large
              · have HF := Lib.hid (HY.out ⟨by simp, by simp, h5, by show ByteArray.empty.size ≤ 2000; decide, fun _ _ => HA.out, by intro a; simp at a, fun _ _ => HTO.out, by intro a; simp at a, fun _ => ⟨rfl, rfl⟩⟩)
                clear HO HY
                go_wp2_with fail
                go_ret
                exact ⟨by rw [HF.out]; rfl, HSF.out.bel⟩
              · have HF := Lib.hid (HO.out fun hh => by have := (hh.tx (by simp)).2; cases this)
                clear HO HY
                go_wp2_with fail
                go_ret
                exact ⟨by rw [HF.out]; rfl, HSF.out.bel⟩
            · have HF := Lib.hid (HO.out fun hh => x0 (hh.tx (by simp)).1)
              obtain ⟨q1, q2⟩ := ne_empty x0
              clear HO HY x0
              go_wp2_with fail
              go_ret
              exact ⟨by rw [HF.out]; rfl, HSF.out.bel⟩
          · have HF := Lib.hid (HY.out ⟨by simp, by simp, h5, hz, fun _ _ => HA.out, by intro a; simp at a, fun _ _ => HTO.out, by intro a; simp at a, fun h => absurd rfl h⟩)
            clear HO HY
            go_wp2_with fail
            go_region
            all_goals
              go_wp2_with fail
              go_ret
              refine ⟨by rw [HF.out]; rfl, ?_⟩
              refine ((HSF.out.bel.setCell ?_ _).setCell ?_ _).drew
              all_goals (simp; done)
  · have HF := Lib.hid (HO.out fun hh => ha (hh.fr1 (by omega) (by omega)))
    have ha' : (addrE s.fr == 0) = false := beq_false_of_ne ha
    clear HO HY
    generalize addrE s.fr = f at *
    obtain ⟨step, ⟨fl, fd⟩, tos, text, large⟩ := s
    unfold Ses.val
    dsimp only at *
    have s3 : 3 ≤ step := by omega
    have s4 : step ≤ 4 := by omega
    clear hs
    unfold Adr.val at HC
    dsimp only at HC
    go_enter Tryd.func19, Tryd.ntmps19
    go_wp2_with fail
    refine (HC.out _ ?_).mono ?_
    · exact H0.out.below ((Below.alloc (Below.refl _ _) (Nat.le_refl _) _).alloc (by simp) _)
    rintro e w1 ⟨rfl, hb1⟩
    obtain ⟨k19a, k19b, k19c⟩ := own_at hb1 (b := w.heap.size) (by first | omega | (simp; done) | (simp; omega)); obtain ⟨k20a, k20b, k20c⟩ := own_at hb1 (b := w.heap.size + 1) (by first | omega | (simp; done) | (simp; omega)); have z21 := hb1.size; (try simp only [World.size_alloc, World.size_setCell] at z21)
    go_wp2_with fail
    go_ret
    refine ⟨by rw [HF.out]; rfl, ?_⟩
    (repeat (first | with_reducible exact hb1 | with_reducible refine Below.trans ?_ (Below.mono hb1 ?_) | with_reducible exact Below.refl _ _ | with_reducible refine Below.setCell ?_ ?_ _ | with_reducible refine Below.alloc ?_ ?_ _ | with_reducible refine Below.drew ?_ | with_reducible refine below_drewN ?_ _))
    all_goals (first | omega | (simp; done) | (simp; omega))
end Go.Proofs.YtddiolgeaefieaaDoor

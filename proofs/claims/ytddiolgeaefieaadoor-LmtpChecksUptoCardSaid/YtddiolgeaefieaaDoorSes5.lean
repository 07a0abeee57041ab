/- SessionFault, walked: P12.1: who sends is known. -/
import Derived.Test.YtddiolgeaefieaaDoorSes4
import Derived.Test.YtddiolgeaefieaaDoorSes3
namespace Go.Proofs.YtddiolgeaefieaaDoor
open Go.RowKit
set_option linter.unusedSimpArgs false
set_option linter.unusedVariables false
theorem drew_heap (w : World) : w.drew.heap = w.heap := rfl
attribute [local simp] drew_heap
set_option maxRecDepth 20000 in
set_option maxHeartbeats 2000000 in
theorem sesFault_2 (s : Ses) (v : Value) (w : World) (h : RF adrF w (· < w.heap.size) v s.tos) (hs : s.step = 2) (h5 : s.tos.length ≤ 5) (hz : s.text.size ≤ 2000) (hf : s.fr.l.size ≤ 1048576 ∧ s.fr.d.size ≤ 1048576) :
    Calls Tryd.prog 21 #[s.val v] w fun e w' => e = .returned (.int .i64 (sesE s)) ∧ Below w.heap.size w w' := by
  obtain ⟨A, c, rfl, h⟩ := h.ex
  have hm := h.bound
  unfold maxLen at hm
  have H := Lib.hid h
  clear h
  have HO := Lib.hid (fun hh => sesE_no (s := s) hh)
  have HY := Lib.hid (fun hh => sesE_ok (s := s) hh)
  have HC := Lib.hid (fun wx => addrFault_any s.fr wx hf)
  clear hf
  by_cases ha : addrE s.fr = 0
  · rw [ha] at HC
    have HA := Lib.hid ha
    clear ha
    obtain ⟨step, ⟨fl, fd⟩, tos, text, large⟩ := s
    unfold Ses.val
    dsimp only at *
    subst hs
    unfold Adr.val at HC
    dsimp only at HC
    by_cases t0 : tos.length = 0
    · have te : tos = [] := List.eq_nil_of_length_eq_zero t0
      subst te
      by_cases x0 : text = ByteArray.empty
      · subst x0
        cases large
        · have HF := Lib.hid (HY.out ⟨by simp, by simp, by simp, by show ByteArray.empty.size ≤ 2000; decide, fun _ _ => HA.out, by intro a; simp at a, by intro a b; simp at a, fun _ => rfl, fun _ => ⟨rfl, rfl⟩⟩)
          clear HO HY
          go_enter Tryd.func21, Tryd.ntmps21
          go_wp2_with (go_at_call 48; first | (refine (In_yes _ _ _ _ ?_ ?_).mono ?_; omega; omega; rintro e w' ⟨rfl, rfl⟩) | (refine (In_no _ _ _ _ ?_).mono ?_; omega; rintro e w' ⟨rfl, rfl⟩))
          refine (HC.out _).mono ?_
          rintro e w1 ⟨rfl, hb1⟩
          obtain ⟨k1a, k1b, k1c⟩ := own_at hb1 (b := w.heap.size) (by first | omega | (simp; done) | (simp; omega)); have z2 := hb1.size; (try simp only [World.size_alloc, World.size_setCell] at z2)
          go_wp2_with fail
          go_loop [5] (fun i => i = .int .i64 0) (fun _ => 0)
          case atStart => rfl
          case round =>
            subst hrel
            go_wp2_with fail
            go_ret
            refine ⟨by rw [HF.out]; rfl, ?_⟩
            (repeat (first | with_reducible exact hb1 | with_reducible refine Below.trans ?_ (Below.mono hb1 ?_) | with_reducible exact Below.refl _ _ | with_reducible refine Below.setCell ?_ ?_ _ | with_reducible refine Below.alloc ?_ ?_ _ | with_reducible refine Below.drew ?_ | with_reducible refine below_drewN ?_ _))
            all_goals (first | omega | (simp; done) | (simp; omega) | (dsimp only [World.drew] at *; omega))
        · have HF := Lib.hid (HO.out fun hh => by have := (hh.tx (by simp)).2; cases this)
          clear HO HY
          go_enter Tryd.func21, Tryd.ntmps21
          go_wp2_with (go_at_call 48; first | (refine (In_yes _ _ _ _ ?_ ?_).mono ?_; omega; omega; rintro e w' ⟨rfl, rfl⟩) | (refine (In_no _ _ _ _ ?_).mono ?_; omega; rintro e w' ⟨rfl, rfl⟩))
          refine (HC.out _).mono ?_
          rintro e w1 ⟨rfl, hb1⟩
          obtain ⟨k3a, k3b, k3c⟩ := own_at hb1 (b := w.heap.size) (by first | omega | (simp; done) | (simp; omega)); have z4 := hb1.size; (try simp only [World.size_alloc, World.size_setCell] at z4)
          go_wp2_with fail
          go_loop [5] (fun i => i = .int .i64 0) (fun _ => 0)
          case atStart => rfl
          case round =>
            subst hrel
            go_wp2_with fail
            go_ret
            refine ⟨by rw [HF.out]; rfl, ?_⟩
            (repeat (first | with_reducible exact hb1 | with_reducible refine Below.trans ?_ (Below.mono hb1 ?_) | with_reducible exact Below.refl _ _ | with_reducible refine Below.setCell ?_ ?_ _ | with_reducible refine Below.alloc ?_ ?_ _ | with_reducible refine Below.drew ?_ | with_reducible refine below_drewN ?_ _))
            all_goals (first | omega | (simp; done) | (simp; omega) | (dsimp only [World.drew] at *; omega))
      · have HF := Lib.hid (HO.out fun hh => x0 (hh.tx (by simp)).1)
        obtain ⟨q1, q2⟩ := ne_empty x0
        clear HO HY x0
        go_enter Tryd.func21, Tryd.ntmps21
        go_wp2_with (go_at_call 48; first | (refine (In_yes _ _ _ _ ?_ ?_).mono ?_; omega; omega; rintro e w' ⟨rfl, rfl⟩) | (refine (In_no _ _ _ _ ?_).mono ?_; omega; rintro e w' ⟨rfl, rfl⟩))
        refine (HC.out _).mono ?_
        rintro e w1 ⟨rfl, hb1⟩
        obtain ⟨k5a, k5b, k5c⟩ := own_at hb1 (b := w.heap.size) (by first | omega | (simp; done) | (simp; omega)); have z6 := hb1.size; (try simp only [World.size_alloc, World.size_setCell] at z6)
        go_wp2_with fail
        go_loop [5] (fun i => i = .int .i64 0) (fun _ => 0)
        case atStart => rfl
        case round =>
          subst hrel
          go_wp2_with fail
          go_ret
          refine ⟨by rw [HF.out]; rfl, ?_⟩
          (repeat (first | with_reducible exact hb1 | with_reducible refine Below.trans ?_ (Below.mono hb1 ?_) | with_reducible exact Below.refl _ _ | with_reducible refine Below.setCell ?_ ?_ _ | with_reducible refine Below.alloc ?_ ?_ _ | with_reducible refine Below.drew ?_ | with_reducible refine below_drewN ?_ _))
          all_goals (first | omega | (simp; done) | (simp; omega) | (dsimp only [World.drew] at *; omega))
    · have HF := Lib.hid (HO.out fun hh => t0 (congrArg List.length (hh.to0 (by simp))))
      have t1 : (0 : Int) < tos.length := by omega
      clear HO HY t0
      go_enter Tryd.func21, Tryd.ntmps21
      go_wp2_with (go_at_call 48; first | (refine (In_yes _ _ _ _ ?_ ?_).mono ?_; omega; omega; rintro e w' ⟨rfl, rfl⟩) | (refine (In_no _ _ _ _ ?_).mono ?_; omega; rintro e w' ⟨rfl, rfl⟩))
      refine (HC.out _).mono ?_
      rintro e w1 ⟨rfl, hb1⟩
      obtain ⟨k7a, k7b, k7c⟩ := own_at hb1 (b := w.heap.size) (by first | omega | (simp; done) | (simp; omega)); have z8 := hb1.size; (try simp only [World.size_alloc, World.size_setCell] at z8)
      go_wp2_with fail
      go_ret
      refine ⟨by rw [HF.out]; rfl, ?_⟩
      (repeat (first | with_reducible exact hb1 | with_reducible refine Below.trans ?_ (Below.mono hb1 ?_) | with_reducible exact Below.refl _ _ | with_reducible refine Below.setCell ?_ ?_ _ | with_reducible refine Below.alloc ?_ ?_ _ | with_reducible refine Below.drew ?_ | with_reducible refine below_drewN ?_ _))
      all_goals (first | omega | (simp; done) | (simp; omega) | (dsimp only [World.drew] at *; omega))
  · have HF := Lib.hid (HO.out fun hh => ha (hh.fr1 (by rw [hs]; decide) (by rw [hs]; decide)))
    have hxc : addrE s.fr = 1 ∨ addrE s.fr = 3 := by have := addrE_cases s.fr; omega
    clear HO HY ha
    obtain ⟨step, ⟨fl, fd⟩, tos, text, large⟩ := s
    unfold Ses.val
    dsimp only at *
    subst hs
    unfold Adr.val at HC
    dsimp only at HC
    rcases hxc with hxc | hxc
    all_goals
      rw [hxc] at HC
      clear hxc
      go_enter Tryd.func21, Tryd.ntmps21
      go_wp2_with (go_at_call 48; first | (refine (In_yes _ _ _ _ ?_ ?_).mono ?_; omega; omega; rintro e w' ⟨rfl, rfl⟩) | (refine (In_no _ _ _ _ ?_).mono ?_; omega; rintro e w' ⟨rfl, rfl⟩))
      refine (HC.out _).mono ?_
      rintro e w1 ⟨rfl, hb1⟩
      obtain ⟨k9a, k9b, k9c⟩ := own_at hb1 (b := w.heap.size) (by first | omega | (simp; done) | (simp; omega)); have z10 := hb1.size; (try simp only [World.size_alloc, World.size_setCell] at z10)
      go_wp2_with fail
      go_ret
      refine ⟨by rw [HF.out]; rfl, ?_⟩
      (repeat (first | with_reducible exact hb1 | with_reducible refine Below.trans ?_ (Below.mono hb1 ?_) | with_reducible exact Below.refl _ _ | with_reducible refine Below.setCell ?_ ?_ _ | with_reducible refine Below.alloc ?_ ?_ _ | with_reducible refine Below.drew ?_ | with_reducible refine below_drewN ?_ _))
      all_goals (first | omega | (simp; done) | (simp; omega) | (dsimp only [World.drew] at *; omega))
/-- what the loop leaves alone -/
structure SG (w W : World) (step : Int) (fl fd : ByteArray) (v : Value) (text : ByteArray) (large : Bool) (l : List Adr) : Prop where
  s0 : W.cell? ⟨w.heap.size, 0, none⟩ = some (.int .i64 step)
  s3 : W.cell? ⟨w.heap.size, 3, none⟩ = some v
  s4 : W.cell? ⟨w.heap.size, 4, none⟩ = some (.string text)
  s5 : W.cell? ⟨w.heap.size, 5, none⟩ = some (.bool large)
  lt : w.heap.size < W.heap.size
  bel : Below w.heap.size w W
  rf : RF adrF W (· < W.heap.size) v l
theorem SG.below {w W W' : World} {step : Int} {fl fd : ByteArray} {v : Value} {text : ByteArray} {large : Bool} {l : List Adr} (h : SG w W step fl fd v text large l) (hb : Below W.heap.size W W') : SG w W' step fl fd v text large l := by
  have hlt := h.lt
  have c : ∀ b o, b < W.heap.size → W'.cell? ⟨b, o, none⟩ = W.cell? ⟨b, o, none⟩ := fun b o h => hb.cell (p := ⟨b, o, none⟩) h
  have hz := hb.size
  constructor
  · rw [c _ _ (by omega)]; exact h.s0
  · rw [c _ _ (by omega)]; exact h.s3
  · rw [c _ _ (by omega)]; exact h.s4
  · rw [c _ _ (by omega)]; exact h.s5
  · omega
  · exact h.bel.trans (hb.mono h.bel.size)
  · exact RF.mono (RF.keep h.rf (Keeps.of_below hb)) (fun b hb' => by omega)
set_option maxRecDepth 20000 in
set_option maxHeartbeats 16000000 in
theorem sesFault_34 (s : Ses) (v : Value) (w : World) (h : RF adrF w (· < w.heap.size) v s.tos) (hs : s.step = 3 ∨ s.step = 4) (h5 : s.tos.length ≤ 5) (hz : s.text.size ≤ 2000) (hf : s.fr.l.size ≤ 1048576 ∧ s.fr.d.size ≤ 1048576) (ht : ∀ a ∈ s.tos, AdrOk a) :
    Calls Tryd.prog 21 #[s.val v] w fun e w' => e = .returned (.int .i64 (sesE s)) ∧ Below w.heap.size w w' := by
  obtain ⟨A, c, rfl, h⟩ := h.ex
  have hm := h.bound
  unfold maxLen at hm
  have H := Lib.hid h
  clear h
  have HO := Lib.hid (fun hh => sesE_no (s := s) hh)
  have HY := Lib.hid (fun hh => sesE_ok (s := s) hh)
  have HC := Lib.hid (fun wx => addrFault_any s.fr wx hf)
  clear hf
  have s3 : 3 ≤ s.step := by omega
  have s4 : s.step ≤ 4 := by omega
  have HT := Lib.hid ht
  have HS := Lib.hid hs
  clear ht hs
  by_cases ha : addrE s.fr = 0
  · rw [ha] at HC
    have HA := Lib.hid ha
    clear ha
    obtain ⟨step, ⟨fl, fd⟩, tos, text, large⟩ := s
    unfold Ses.val
    dsimp only at *
    unfold Adr.val at HC
    dsimp only at HC
    by_cases t0 : tos.length = 0
    · have te : tos = [] := List.eq_nil_of_length_eq_zero t0
      subst te
      have HF := Lib.hid (HO.out fun hh => (hh.to1 s3 s4).1 rfl)
      clear HO HY
      go_enter Tryd.func21, Tryd.ntmps21
      go_wp2_with (go_at_call 48; first | (refine (In_yes _ _ _ _ ?_ ?_).mono ?_; omega; omega; rintro e w' ⟨rfl, rfl⟩) | (refine (In_no _ _ _ _ ?_).mono ?_; omega; rintro e w' ⟨rfl, rfl⟩))
      refine (HC.out _).mono ?_
      rintro e w1 ⟨rfl, hb1⟩
      obtain ⟨k11a, k11b, k11c⟩ := own_at hb1 (b := w.heap.size) (by first | omega | (simp; done) | (simp; omega)); have z12 := hb1.size; (try simp only [World.size_alloc, World.size_setCell] at z12)
      go_wp2_with fail
      go_ret
      refine ⟨by rw [HF.out]; rfl, ?_⟩
      (repeat (first | with_reducible exact hb1 | with_reducible refine Below.trans ?_ (Below.mono hb1 ?_) | with_reducible exact Below.refl _ _ | with_reducible refine Below.setCell ?_ ?_ _ | with_reducible refine Below.alloc ?_ ?_ _ | with_reducible refine Below.drew ?_ | with_reducible refine below_drewN ?_ _))
      all_goals (first | omega | (simp; done) | (simp; omega) | (dsimp only [World.drew] at *; omega))
    · have t1 : (0 : Int) < tos.length := by omega
      have t2 : decide ((0 : Int) < tos.length) = true := by simpa using t1
      have t3 : decide (0 < tos.length) = true := by simp; omega
      have HNE : Hid (tos ≠ []) := Lib.hid fun e => t0 (by rw [e]; rfl)
      clear t0
      go_enter Tryd.func21, Tryd.ntmps21
      go_wp2_with (go_at_call 48; first | (refine (In_yes _ _ _ _ ?_ ?_).mono ?_; omega; omega; rintro e w' ⟨rfl, rfl⟩) | (refine (In_no _ _ _ _ ?_).mono ?_; omega; rintro e w' ⟨rfl, rfl⟩))
      refine (HC.out _).mono ?_
      rintro e w1 ⟨rfl, hb1⟩
      obtain ⟨kka, kkb, kkc⟩ := own_at hb1 (b := w.heap.size) (by simp)
      go_wp2_with fail
      refine wp_world (fun W => SG w W step fl fd (.slice A tos.length c) text large tos) ?_ ?_
      · have hbw : Below w.heap.size w w1 := ((Below.refl _ w).alloc (Nat.le_refl _) _).trans (hb1.mono (by simp))
        constructor
        · rw [kka]; simp [go_sem]
        · rw [kka]; simp [go_sem]
        · rw [kka]; simp [go_sem]
        · rw [kka]; simp [go_sem]
        · omega
        · exact hbw
        · exact RF.mono (RF.keep H.out (Keeps.of_below hbw)) (fun b hb => by omega)
      intro W0 hW0
      have HW0 := Lib.hid hW0
      clear hW0 kka kkb kkc hb1
      go_loopw [5] (fun i wr => ∃ k : Nat, k ≤ tos.length ∧ i = .int .i64 k ∧ SG w wr step fl fd (.slice A tos.length c) text large tos ∧ ∀ (j : Nat) a, j < k → tos[j]? = some a → addrE a = 0 ∧ inB (tos.take j) a = false) (fun i _ => tos.length - (intOf i).toNat)
      case atStart => exact ⟨0, Nat.zero_le _, rfl, HW0.out, fun j a hj => by omega⟩
      case round =>
        obtain ⟨k, hk, rfl, hsf, hgd⟩ := hrel
        have HG := Lib.hid hgd
        have HSF := Lib.hid hsf
        have c0 := hsf.s0
        have c3 := hsf.s3
        have c4 := hsf.s4
        have c5 := hsf.s5
        have hlt0 := hsf.lt
        clear hgd hsf
        by_cases hlt : k < tos.length
        · obtain ⟨b, off, x, rfl, hbl, hx, hc0, hc1⟩ := adr_cell HSF.out.rf hlt
          have HX := Lib.hid hx
          have hxok := HT.out x (List.mem_of_getElem? hx)
          have HCX := Lib.hid (fun wx => addrFault_any x wx ⟨hxok.hl, hxok.hd⟩)
          have HIN := Lib.hid (fun wx v hl => addressIn_any v (tos.take k) x wx hl)
          clear hx hxok
          have i0 : (0 : Int) ≤ k := by omega
          have i1 : (k : Int) < tos.length := by omega
          have icap : tos.length ≤ c := HSF.out.rf.cap.2.1
          have ikc : (k : Int) ≤ c := by omega
          by_cases hxa : addrE x = 0
          · rw [hxa] at HCX
            cases hin : inB (tos.take k) x
            · rw [hin] at HIN
              have HXA := Lib.hid hxa
              have HII := Lib.hid hin
              clear hxa hin
              obtain ⟨xl, xd⟩ := x
              unfold Adr.val at HCX HIN
              dsimp only at hc0 hc1 HCX HIN
              go_wp2_with fail
              go_region_held3 (fun w' => w'.cell? ⟨w.heap.size, 3, none⟩ = some (.slice (some ⟨b, off, none⟩) tos.length c) ∧ w'.cell? ⟨b, off + k * 2, none⟩ = some (.string xl) ∧ w'.cell? ⟨b, off + k * 2 + 1, none⟩ = some (.string xd)) (((try dsimp only); (repeat' apply And.intro) <;> (go_keep; done))) (first | (go_at_call 16; refine (HCX.out _).mono ?_; rintro e wq ⟨rfl, hq1⟩; obtain ⟨k13a, k13b, k13c⟩ := own_at hq1 (b := w.heap.size) (by first | omega | (simp; done) | (simp; omega)); obtain ⟨k14a, k14b, k14c⟩ := own_at hq1 (b := b) (by first | omega | (simp; done) | (simp; omega)); have z15 := hq1.size; (try simp only [World.size_alloc, World.size_setCell] at z15)) | (go_at_call 51; refine (HIN.out _ _ ?_).mono ?_; exact (by refine RF.is.to (HSF.out.rf.take (k := k) (by omega)) ?_ ?_ <;> first | (intro b hb; first | omega | (dsimp only [World.drew] at *; omega) | (simp; omega) | (simp at hb; omega) | (simp at hb ⊢; omega) | (simp [New] at hb; omega) | (simp [New] at hb ⊢; omega) | (simp [New] at hb ⊢; done)) | ((repeat (first | with_reducible refine Keeps.bl' ?_ hq1 ?_ | with_reducible exact Keeps.refl _ _ | with_reducible refine Keeps.al' ?_ ?_ _ | with_reducible refine Keeps.st' ?_ ?_ _ | with_reducible refine Keeps.dr' ?_ | with_reducible refine Keeps.drN' ?_)); all_goals (intro b hb; first | omega | (dsimp only [World.drew] at *; omega) | (simp; omega) | (simp at hb; omega) | (simp at hb ⊢; omega) | (simp [New] at hb; omega) | (simp [New] at hb ⊢; omega) | (simp [New] at hb ⊢; done)))); rintro e wq2 ⟨rfl, hq2⟩; obtain ⟨k16a, k16b, k16c⟩ := own_at hq2 (b := w.heap.size) (by first | omega | (simp; done) | (simp; omega)); obtain ⟨k17a, k17b, k17c⟩ := own_at hq2 (b := b) (by first | omega | (simp; done) | (simp; omega)); have z18 := hq2.size; (try simp only [World.size_alloc, World.size_setCell] at z18)))
              go_wp2_with fail
              go_roundw
              case rel =>
                refine ⟨k + 1, by omega, by go_num, HSF.out.below ?_, fun j a hj hja => ?_⟩
                · (repeat (first | with_reducible exact hq2 | with_reducible refine Below.trans ?_ (Below.mono hq2 ?_) | with_reducible exact hq1 | with_reducible refine Below.trans ?_ (Below.mono hq1 ?_) | with_reducible exact Below.refl _ _ | with_reducible refine Below.setCell ?_ ?_ _ | with_reducible refine Below.alloc ?_ ?_ _ | with_reducible refine Below.drew ?_ | with_reducible refine below_drewN ?_ _))
                  all_goals (first | omega | (simp; done) | (simp; omega) | (dsimp only [World.drew] at *; omega))
                · by_cases e : j = k
                  · subst e
                    rw [HX.out] at hja
                    injection hja with hja
                    subst hja
                    exact ⟨HXA.out, HII.out⟩
                  · exact HG.out j a (by omega) hja
              case measure => simp [intOf]; omega
            · rw [hin] at HIN
              have HF := Lib.hid (HO.out fun hh => by
                have := ((hh.to1 s3 s4).2 k x HX.out).2
                rw [this] at hin; cases hin)
              clear hxa hin HO HY
              obtain ⟨xl, xd⟩ := x
              unfold Adr.val at HCX HIN
              dsimp only at hc0 hc1 HCX HIN
              go_wp2_with fail
              go_region_held3 (fun w' => w'.cell? ⟨w.heap.size, 3, none⟩ = some (.slice (some ⟨b, off, none⟩) tos.length c) ∧ w'.cell? ⟨b, off + k * 2, none⟩ = some (.string xl) ∧ w'.cell? ⟨b, off + k * 2 + 1, none⟩ = some (.string xd)) (((try dsimp only); (repeat' apply And.intro) <;> (go_keep; done))) (first | (go_at_call 16; refine (HCX.out _).mono ?_; rintro e wq ⟨rfl, hq1⟩; obtain ⟨k19a, k19b, k19c⟩ := own_at hq1 (b := w.heap.size) (by first | omega | (simp; done) | (simp; omega)); obtain ⟨k20a, k20b, k20c⟩ := own_at hq1 (b := b) (by first | omega | (simp; done) | (simp; omega)); have z21 := hq1.size; (try simp only [World.size_alloc, World.size_setCell] at z21)) | (go_at_call 51; refine (HIN.out _ _ ?_).mono ?_; exact (by refine RF.is.to (HSF.out.rf.take (k := k) (by omega)) ?_ ?_ <;> first | (intro b hb; first | omega | (dsimp only [World.drew] at *; omega) | (simp; omega) | (simp at hb; omega) | (simp at hb ⊢; omega) | (simp [New] at hb; omega) | (simp [New] at hb ⊢; omega) | (simp [New] at hb ⊢; done)) | ((repeat (first | with_reducible refine Keeps.bl' ?_ hq1 ?_ | with_reducible exact Keeps.refl _ _ | with_reducible refine Keeps.al' ?_ ?_ _ | with_reducible refine Keeps.st' ?_ ?_ _ | with_reducible refine Keeps.dr' ?_ | with_reducible refine Keeps.drN' ?_)); all_goals (intro b hb; first | omega | (dsimp only [World.drew] at *; omega) | (simp; omega) | (simp at hb; omega) | (simp at hb ⊢; omega) | (simp [New] at hb; omega) | (simp [New] at hb ⊢; omega) | (simp [New] at hb ⊢; done)))); rintro e wq2 ⟨rfl, hq2⟩; obtain ⟨k22a, k22b, k22c⟩ := own_at hq2 (b := w.heap.size) (by first | omega | (simp; done) | (simp; omega)); obtain ⟨k23a, k23b, k23c⟩ := own_at hq2 (b := b) (by first | omega | (simp; done) | (simp; omega)); have z24 := hq2.size; (try simp only [World.size_alloc, World.size_setCell] at z24)))
              go_wp2_with fail
              go_ret
              refine ⟨by rw [HF.out]; rfl, HSF.out.bel.trans (Below.mono ?_ HSF.out.bel.size)⟩
              (repeat (first | with_reducible exact hq2 | with_reducible refine Below.trans ?_ (Below.mono hq2 ?_) | with_reducible exact hq1 | with_reducible refine Below.trans ?_ (Below.mono hq1 ?_) | with_reducible exact Below.refl _ _ | with_reducible refine Below.setCell ?_ ?_ _ | with_reducible refine Below.alloc ?_ ?_ _ | with_reducible refine Below.drew ?_ | with_reducible refine below_drewN ?_ _))
              all_goals (first | omega | (simp; done) | (simp; omega) | (dsimp only [World.drew] at *; omega))
          · have HF := Lib.hid (HO.out fun hh => hxa ((hh.to1 s3 s4).2 k x HX.out).1)
            have hxc : addrE x = 1 ∨ addrE x = 3 := by have := addrE_cases x; omega
            clear HO HY hxa
            obtain ⟨xl, xd⟩ := x
            unfold Adr.val at HCX HIN
            dsimp only at hc0 hc1 HCX HIN
            rcases hxc with hxc | hxc
            all_goals
              rw [hxc] at HCX
              clear hxc
              go_wp2_with fail
              refine wp_region_any (by kernel_rfl) ?_
              try (change wpAny _ _ _ _ _ _ _ (World.drew _))
              refine wpAny_take (i := 0) (v := ?_) rfl (by kernel_rfl) (by kernel_rfl) (by kernel_rfl) (fun _ _ _ h => h) (Or.inl ⟨by rfl, ?_⟩) ?_
              rotate_left
              · first | (intro w; go_simp; done) | (intro w; go_simp; with_reducible rfl)
              conv => arg 7; simp [go_sem]
              refine wpAny_take (i := 2) (v := ?_) rfl (by kernel_rfl) (by kernel_rfl) (by kernel_rfl) (fun _ _ _ h => h) (Or.inl ⟨by rfl, ?_⟩) ?_
              rotate_left
              · first | (intro w; go_simp; done) | (intro w; go_simp; with_reducible rfl)
              conv => arg 7; simp [go_sem]
              refine wpAny_ready (rs := [1]) (by kernel_rfl) (by simp) ?_
              refine AllReady.cons rfl (fun K hK => ?_) AllReady.nil
              go_simp
              refine hK _ _ ?_
              clear hK K
              refine wpAny_take (i := 3) (v := ?_) rfl (by kernel_rfl) (by kernel_rfl) (by kernel_rfl) (fun _ _ _ h => h) (Or.inl ⟨by rfl, ?_⟩) ?_
              rotate_left
              · first | (intro w; go_simp; done) | (intro w; go_simp; with_reducible rfl)
              conv => arg 7; simp [go_sem]
              refine wpAny_ready (rs := [4]) (by kernel_rfl) (by simp) ?_
              refine AllReady.cons rfl (fun K hK => ?_) AllReady.nil
              go_simp
              refine hK _ _ ?_
              clear hK K
              refine wpAny_ready (rs := [5]) (by kernel_rfl) (by simp) ?_
              refine AllReady.cons rfl (fun K hK => ?_) AllReady.nil
              go_simp
              go_wp2_with ((go_at_call 16; refine (HCX.out _).mono ?_; rintro e wq ⟨rfl, hq1⟩; obtain ⟨k25a, k25b, k25c⟩ := own_at hq1 (b := w.heap.size) (by first | omega | (simp; done) | (simp; omega)); obtain ⟨k26a, k26b, k26c⟩ := own_at hq1 (b := b) (by first | omega | (simp; done) | (simp; omega)); have z27 := hq1.size; (try simp only [World.size_alloc, World.size_setCell] at z27)))
              try (refine hK _ _ ?_; clear hK K)
              refine wpAny_take (i := 6) (v := ?_) rfl (by kernel_rfl) (by kernel_rfl) (by kernel_rfl) (fun _ _ _ h => h) (Or.inl ⟨by rfl, ?_⟩) ?_
              rotate_left
              · first | (intro w; go_simp; done) | (intro w; go_simp; with_reducible rfl)
              conv => arg 7; simp [go_sem]
              refine wpAny_take (i := 7) (v := ?_) rfl (by kernel_rfl) (by kernel_rfl) (by kernel_rfl) (fun _ _ _ h => h) (Or.inl ⟨by rfl, ?_⟩) ?_
              rotate_left
              · first | (intro w; go_simp; done) | (intro w; go_simp; with_reducible rfl)
              conv => arg 7; simp [go_sem]
              refine wpAny_take (i := 8) (v := undef) rfl (by kernel_rfl) (by kernel_rfl) (by kernel_rfl) (fun _ _ _ h => h) (Or.inr ⟨by rfl, rfl⟩) ?_
              conv => arg 7; simp [go_sem]
              refine wpAny_take (i := 9) (v := undef) rfl (by kernel_rfl) (by kernel_rfl) (by kernel_rfl) (fun _ _ _ h => h) (Or.inr ⟨by rfl, rfl⟩) ?_
              conv => arg 7; simp [go_sem]
              refine wpAny_take (i := 10) (v := undef) rfl (by kernel_rfl) (by kernel_rfl) (by kernel_rfl) (fun _ _ _ h => h) (Or.inr ⟨by rfl, rfl⟩) ?_
              conv => arg 7; simp [go_sem]
              refine wpAny_take (i := 11) (v := undef) rfl (by kernel_rfl) (by kernel_rfl) (by kernel_rfl) (fun _ _ _ h => h) (Or.inr ⟨by rfl, rfl⟩) ?_
              conv => arg 7; simp [go_sem]
              refine wpAny_take (i := 12) (v := undef) rfl (by kernel_rfl) (by kernel_rfl) (by kernel_rfl) (fun _ _ _ h => h) (Or.inr ⟨by rfl, rfl⟩) ?_
              conv => arg 7; simp [go_sem]
              refine wpAny_take (i := 13) (v := undef) rfl (by kernel_rfl) (by kernel_rfl) (by kernel_rfl) (fun _ _ _ h => h) (Or.inr ⟨by rfl, rfl⟩) ?_
              conv => arg 7; simp [go_sem]
              refine wpAny_take (i := 14) (v := undef) rfl (by kernel_rfl) (by kernel_rfl) (by kernel_rfl) (fun _ _ _ h => h) (Or.inr ⟨by rfl, rfl⟩) ?_
              conv => arg 7; simp [go_sem]
              refine wpAny_take (i := 15) (v := undef) rfl (by kernel_rfl) (by kernel_rfl) (by kernel_rfl) (fun _ _ _ h => h) (Or.inr ⟨by rfl, rfl⟩) ?_
              conv => arg 7; simp [go_sem]
              refine wpAny_take (i := 16) (v := undef) rfl (by kernel_rfl) (by kernel_rfl) (by kernel_rfl) (fun _ _ _ h => h) (Or.inr ⟨by rfl, rfl⟩) ?_
              conv => arg 7; simp [go_sem]
              refine wpAny_take (i := 17) (v := undef) rfl (by kernel_rfl) (by kernel_rfl) (by kernel_rfl) (fun _ _ _ h => h) (Or.inr ⟨by rfl, rfl⟩) ?_
              conv => arg 7; simp [go_sem]
              refine wpAny_take (i := 18) (v := ?_) rfl (by kernel_rfl) (by kernel_rfl) (by kernel_rfl) (fun _ _ _ h => h) (Or.inl ⟨by rfl, ?_⟩) ?_
              rotate_left
              · first | (intro w; go_simp; done) | (intro w; go_simp; with_reducible rfl)
              conv => arg 7; simp [go_sem]
              refine wpAny_done (by kernel_rfl) ?_ _
              go_wp2_with fail
              go_ret
              refine ⟨by rw [HF.out]; rfl, HSF.out.bel.trans (Below.mono ?_ HSF.out.bel.size)⟩
              (repeat (first | with_reducible exact hq1 | with_reducible refine Below.trans ?_ (Below.mono hq1 ?_) | with_reducible exact Below.refl _ _ | with_reducible refine Below.setCell ?_ ?_ _ | with_reducible refine Below.alloc ?_ ?_ _ | with_reducible refine Below.drew ?_ | with_reducible refine below_drewN ?_ _))
              all_goals (first | omega | (simp; done) | (simp; omega) | (dsimp only [World.drew] at *; omega))
        · obtain rfl : k = tos.length := by omega
          clear hlt
          have HTO : Hid (tos ≠ [] ∧ toOk tos) := Lib.hid ⟨HNE.out, toOk_all (Nat.le_refl _) HG.out⟩
          rcases HS.out with rfl | rfl
          · by_cases x0 : text = ByteArray.empty
            · subst x0
              cases large
              · have HF := Lib.hid (HY.out ⟨by simp, by simp, h5, by show ByteArray.empty.size ≤ 2000; decide, fun _ _ => HA.out, by intro a; simp at a, fun _ _ => HTO.out, by intro a; simp at a, fun _ => ⟨rfl, rfl⟩⟩)
                clear HO HY
                go_wp2_with fail
                go_ret
                exact ⟨by rw [HF.out]; rfl, HSF.out.bel⟩
              · have HF := Lib.hid (HO.out fun hh => by have := (hh.tx (by simp)).2; cases this)
                clear HO HY
                go_wp2_with fail
                go_ret
                exact ⟨by rw [HF.out]; rfl, HSF.out.bel⟩
            · have HF := Lib.hid (HO.out fun hh => x0 (hh.tx (by simp)).1)
              obtain ⟨q1, q2⟩ := ne_empty x0
              clear HO HY x0
              go_wp2_with fail
              go_ret
              exact ⟨by rw [HF.out]; rfl, HSF.out.bel⟩
          · have HF := Lib.hid (HY.out ⟨by simp, by simp, h5, hz, fun _ _ => HA.out, by intro a; simp at a, fun _ _ => HTO.out, by intro a; simp at a, fun h => absurd rfl h⟩)
            clear HO HY
            go_wp2_with fail
            go_ret
            exact ⟨by rw [HF.out]; rfl, HSF.out.bel⟩
  · have HF := Lib.hid (HO.out fun hh => ha (hh.fr1 (by omega) (by omega)))
    have hxc : addrE s.fr = 1 ∨ addrE s.fr = 3 := by have := addrE_cases s.fr; omega
    clear HO HY ha
    obtain ⟨step, ⟨fl, fd⟩, tos, text, large⟩ := s
    unfold Ses.val
    dsimp only at *
    unfold Adr.val at HC
    dsimp only at HC
    rcases hxc with hxc | hxc
    all_goals
      rw [hxc] at HC
      clear hxc
      go_enter Tryd.func21, Tryd.ntmps21
      go_wp2_with (go_at_call 48; first | (refine (In_yes _ _ _ _ ?_ ?_).mono ?_; omega; omega; rintro e w' ⟨rfl, rfl⟩) | (refine (In_no _ _ _ _ ?_).mono ?_; omega; rintro e w' ⟨rfl, rfl⟩))
      refine (HC.out _).mono ?_
      rintro e w1 ⟨rfl, hb1⟩
      obtain ⟨k28a, k28b, k28c⟩ := own_at hb1 (b := w.heap.size) (by first | omega | (simp; done) | (simp; omega)); have z29 := hb1.size; (try simp only [World.size_alloc, World.size_setCell] at z29)
      go_wp2_with fail
      go_ret
      refine ⟨by rw [HF.out]; rfl, ?_⟩
      (repeat (first | with_reducible exact hb1 | with_reducible refine Below.trans ?_ (Below.mono hb1 ?_) | with_reducible exact Below.refl _ _ | with_reducible refine Below.setCell ?_ ?_ _ | with_reducible refine Below.alloc ?_ ?_ _ | with_reducible refine Below.drew ?_ | with_reducible refine below_drewN ?_ _))
      all_goals (first | omega | (simp; done) | (simp; omega) | (dsimp only [World.drew] at *; omega))
end Go.Proofs.YtddiolgeaefieaaDoor

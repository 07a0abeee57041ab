/- The law LmtpChecks: P12.1. -/
import Derived.Test.YtddiolgeaefieaaDoorSes5
import Derived.Test.YtddiolgeaefieaaDoorAdrOpen
import Derived.Test.YtddiolgeaefieaaDoorRow
namespace Go.Proofs.YtddiolgeaefieaaDoor
open Go.RowKit Go.ChangeShapes Go.WideShapes Go.ChangeAt
set_option linter.unusedSimpArgs false
set_option linter.unusedVariables false
open Go.ChangeShapes Go.WideShapes Go.ChangeAt
structure SesBound (s : Ses) : Prop where
  tx : s.text.size ≤ 1048576
  fr : AdrOk s.fr
  tos : ∀ a ∈ s.tos, AdrOk a
theorem sesCheck_any (s : Ses) (v : Value) (w : World) (h : RF adrF w (· < w.heap.size) v s.tos) (hb : SesBound s) (h0 : Lib0 w) :
    Calls Tryd.prog 19 #[s.val v] w fun e w' => e = .returned (.int .i64 (sesE s)) ∧ Below w.heap.size w w' := by
  have htx := hb.tx
  by_cases hr : s.step < 0 ∨ 5 < s.step ∨ 5 < s.tos.length ∨ 2000 < s.text.size
  · exact lmtpCheck_range s v w h htx hr
  · have hst : s.step = 0 ∨ s.step = 1 ∨ s.step = 5 ∨ s.step = 2 ∨ s.step = 3 ∨ s.step = 4 := by omega
    rcases hst with e | e | e | e | e
    · exact lmtpCheck_0 s v w h e (by omega) (by omega)
    · exact lmtpCheck_1 s v w h e (by omega) (by omega)
    · exact lmtpCheck_5 s v w h e (by omega) (by omega)
    · exact lmtpCheck_2 s v w h e (by omega) (by omega) ⟨hb.fr.hl, hb.fr.hd⟩ h0
    · exact lmtpCheck_34 s v w h e (by omega) (by omega) ⟨hb.fr.hl, hb.fr.hd⟩ hb.tos h0
theorem sesFault_any (s : Ses) (v : Value) (w : World) (h : RF adrF w (· < w.heap.size) v s.tos) (hb : SesBound s) :
    Calls Tryd.prog 21 #[s.val v] w fun e w' => e = .returned (.int .i64 (sesE s)) ∧ Below w.heap.size w w' := by
  have htx := hb.tx
  by_cases hr : s.step < 0 ∨ 5 < s.step ∨ 5 < s.tos.length ∨ 2000 < s.text.size
  · exact sesFault_range s v w h htx hr
  · have hst : s.step = 0 ∨ s.step = 1 ∨ s.step = 5 ∨ s.step = 2 ∨ s.step = 3 ∨ s.step = 4 := by omega
    rcases hst with e | e | e | e | e
    · exact sesFault_0 s v w h e (by omega) (by omega)
    · exact sesFault_1 s v w h e (by omega) (by omega)
    · exact sesFault_5 s v w h e (by omega) (by omega)
    · exact sesFault_2 s v w h e (by omega) (by omega) ⟨hb.fr.hl, hb.fr.hd⟩
    · exact sesFault_34 s v w h e (by omega) (by omega) ⟨hb.fr.hl, hb.fr.hd⟩ hb.tos
set_option maxRecDepth 20000 in
set_option maxHeartbeats 1000000 in
theorem sessions_any (s : Ses) (v : Value) (w : World) (h : RF adrF w (· < w.heap.size) v s.tos) (hl : s.tos.length * 32 ≤ 140737488355328) :
    Calls Tryd.prog 20 #[s.val v] w fun e w' => ∃ v', e = .returned (s.val v') ∧ RF adrF w' (New w w') v' s.tos ∧ Below w.heap.size w w' := by
  obtain ⟨A, c, rfl, h⟩ := h.ex
  have hm := h.bound
  have HA := Lib.hid h.cap.2.2.2
  have H := Lib.hid h
  clear h
  obtain ⟨step, ⟨fl, fd⟩, tos, text, large⟩ := s
  unfold Ses.val
  dsimp only at *
  go_enter Tryd.func20, Tryd.ntmps20
  go_wp2_with (refine wpList_copy_sl el_adr rfl _ _ rfl rfl (w.heap.size + 1 + 1) rfl (RF.sl (D := (· < w.heap.size)) (by refine RF.is.to H.out ?_ ?_ <;> first | (intro b hb; first | omega | (dsimp only [World.drew] at *; omega) | (simp; omega) | (simp at hb; omega) | (simp at hb ⊢; omega) | (simp [New] at hb; omega) | (simp [New] at hb ⊢; omega) | (simp [New] at hb ⊢; done)) | ((repeat (first | with_reducible exact Keeps.refl _ _ | with_reducible refine Keeps.al' ?_ ?_ _ | with_reducible refine Keeps.st' ?_ ?_ _ | with_reducible refine Keeps.dr' ?_ | with_reducible refine Keeps.drN' ?_)); all_goals (intro b hb; first | omega | (dsimp only [World.drew] at *; omega) | (simp; omega) | (simp at hb; omega) | (simp at hb ⊢; omega) | (simp [New] at hb; omega) | (simp [New] at hb ⊢; omega) | (simp [New] at hb ⊢; done))))) (adrF.ones tos) HA.out (by omega) (by omega) (by simp) ?_; intro A1 c1 w1 hown1 hb1; have HO1 := Lib.hid hown1; clear hown1; obtain ⟨k1a, k1b, k1c⟩ := own_at hb1 (b := w.heap.size) (by first | omega | (simp; done) | (simp; omega)); obtain ⟨k2a, k2b, k2c⟩ := own_at hb1 (b := w.heap.size + 1) (by first | omega | (simp; done) | (simp; omega)); have z3 := hb1.size; (try simp only [World.size_alloc, World.size_setCell] at z3))
  refine bodyPost_ret (v := .agg #[.int .i64 step, .string fl, .string fd, .slice A1 tos.length c1, .string text, .bool large]) (by simp [results, Tryd.results20, go_sem, k1a, k1c, k2a, k2c]) rfl ⟨_, rfl, ?_, ?_⟩
  · refine (RF.keep (RF.of_own rfl HO1.out) ?_).mono (fun b hb => ?_)
    · (repeat (first | with_reducible exact Keeps.refl _ _ | with_reducible refine Keeps.al' ?_ ?_ _ | with_reducible refine Keeps.st' ?_ ?_ _ | with_reducible refine Keeps.dr' ?_ | with_reducible refine Keeps.drN' ?_))
      all_goals (intro b hb; have h1 := hb.1; have h2 := hb.2; first | omega | (simp; done) | (simp; omega) | (simp at h1; omega) | (simp at h1 ⊢; omega) | (simp at h1 h2 ⊢; omega))
    · have h1 := hb.1
      have h2 := hb.2
      exact ⟨by omega, by simp; omega⟩
  · have hbw : Below w.heap.size w w1 := (((Below.refl _ w).alloc (Nat.le_refl _) _).alloc (by simp) _).trans (hb1.mono (by omega))
    exact ((((((hbw.setCell (Nat.le_refl _) _).setCell (Nat.le_succ _) _).setCell (Nat.le_succ _) _).setCell (Nat.le_succ _) _).setCell (Nat.le_succ _) _).setCell (Nat.le_succ _) _).setCell (Nat.le_succ _) _
set_option maxRecDepth 20000 in
set_option maxHeartbeats 1000000 in
theorem lmtpChecks_walk (s : Ses) (v : Value) (w : World) (h : RF adrF w (· < w.heap.size) v s.tos) (hb : SesBound s) (hl : s.tos.length * 32 ≤ 140737488355328) (h0 : Lib0 w) :
    Calls Tryd.prog 5 #[s.val v] w fun e w' => e = .returned (.bool true) ∧ Below w.heap.size w w' := by
  obtain ⟨A, c, rfl, h⟩ := h.ex
  have H := Lib.hid h
  have H0 := Lib.hid h0
  have HC := Lib.hid (fun wx v hx hy => sesCheck_any s v wx hx hb hy)
  have HA := Lib.hid (fun wx v hx => sesFault_any s v wx hx hb)
  have HS := Lib.hid (fun wx v hx => sessions_any s v wx hx hl)
  generalize sesE s = f at HC HA
  clear h h0 hb hl
  obtain ⟨step, ⟨fl, fd⟩, tos, text, large⟩ := s
  unfold Ses.val at *
  dsimp only at *
  go_enter Tryd.func5, Tryd.ntmps5
  go_wp2_with fail
  refine (HS.out _ _ (by refine RF.is.to H.out ?_ ?_ <;> first | (intro b hb; first | omega | (dsimp only [World.drew] at *; omega) | (simp; omega) | (simp at hb; omega) | (simp at hb ⊢; omega) | (simp [New] at hb; omega) | (simp [New] at hb ⊢; omega) | (simp [New] at hb ⊢; done)) | ((repeat (first | with_reducible exact Keeps.refl _ _ | with_reducible refine Keeps.al' ?_ ?_ _ | with_reducible refine Keeps.st' ?_ ?_ _ | with_reducible refine Keeps.dr' ?_ | with_reducible refine Keeps.drN' ?_)); all_goals (intro b hb; first | omega | (dsimp only [World.drew] at *; omega) | (simp; omega) | (simp at hb; omega) | (simp at hb ⊢; omega) | (simp [New] at hb; omega) | (simp [New] at hb ⊢; omega) | (simp [New] at hb ⊢; done))))).mono ?_
  rintro e w1 ⟨v1, rfl, hr1, hb1⟩
  obtain ⟨A1, c1, rfl, hr1⟩ := hr1.ex
  have HR1 := Lib.hid hr1
  clear hr1
  obtain ⟨k4a, k4b, k4c⟩ := own_at hb1 (b := w.heap.size) (by first | omega | (simp; done) | (simp; omega)); have z5 := hb1.size; (try simp only [World.size_alloc, World.size_setCell] at z5)
  go_wp2_with fail
  refine (HC.out _ _ (by refine RF.is.to HR1.out ?_ ?_ <;> first | (intro b hb; first | omega | (dsimp only [World.drew] at *; omega) | (simp; omega) | (simp at hb; omega) | (simp at hb ⊢; omega) | (simp [New] at hb; omega) | (simp [New] at hb ⊢; omega) | (simp [New] at hb ⊢; done)) | ((repeat (first | with_reducible exact Keeps.refl _ _ | with_reducible refine Keeps.al' ?_ ?_ _ | with_reducible refine Keeps.st' ?_ ?_ _ | with_reducible refine Keeps.dr' ?_ | with_reducible refine Keeps.drN' ?_)); all_goals (intro b hb; first | omega | (dsimp only [World.drew] at *; omega) | (simp; omega) | (simp at hb; omega) | (simp at hb ⊢; omega) | (simp [New] at hb; omega) | (simp [New] at hb ⊢; omega) | (simp [New] at hb ⊢; done)))) ?_).mono ?_
  · exact (H0.out.below (Below.alloc (Below.refl _ _) (Nat.le_refl _) _)).below hb1
  rintro e w2 ⟨rfl, hb2⟩
  obtain ⟨k6a, k6b, k6c⟩ := own_at hb2 (b := w.heap.size) (by first | omega | (simp; done) | (simp; omega)); have z7 := hb2.size; (try simp only [World.size_alloc, World.size_setCell] at z7)
  go_wp2_with fail
  refine (HA.out _ _ (by refine RF.is.to H.out ?_ ?_ <;> first | (intro b hb; first | omega | (dsimp only [World.drew] at *; omega) | (simp; omega) | (simp at hb; omega) | (simp at hb ⊢; omega) | (simp [New] at hb; omega) | (simp [New] at hb ⊢; omega) | (simp [New] at hb ⊢; done)) | ((repeat (first | with_reducible refine Keeps.bl' ?_ hb2 ?_ | with_reducible refine Keeps.bl' ?_ hb1 ?_ | with_reducible exact Keeps.refl _ _ | with_reducible refine Keeps.al' ?_ ?_ _ | with_reducible refine Keeps.st' ?_ ?_ _ | with_reducible refine Keeps.dr' ?_ | with_reducible refine Keeps.drN' ?_)); all_goals (intro b hb; first | omega | (dsimp only [World.drew] at *; omega) | (simp; omega) | (simp at hb; omega) | (simp at hb ⊢; omega) | (simp [New] at hb; omega) | (simp [New] at hb ⊢; omega) | (simp [New] at hb ⊢; done))))).mono ?_
  rintro e w3 ⟨rfl, hb3⟩
  go_wp2_with fail
  go_ret
  refine ⟨by simp, ?_⟩
  (repeat (first | with_reducible exact hb3 | with_reducible refine Below.trans ?_ (Below.mono hb3 ?_) | with_reducible exact hb2 | with_reducible refine Below.trans ?_ (Below.mono hb2 ?_) | with_reducible exact hb1 | with_reducible refine Below.trans ?_ (Below.mono hb1 ?_) | with_reducible exact Below.refl _ _ | with_reducible refine Below.setCell ?_ ?_ _ | with_reducible refine Below.alloc ?_ ?_ _ | with_reducible refine Below.drew ?_ | with_reducible refine below_drewN ?_ _))
  all_goals (first | omega | (simp; done) | (simp; omega) | (dsimp only [World.drew] at *; omega))
set_option maxRecDepth 100000 in
theorem trod_adrs {H : Type} {enc : TypeId × Value → H} {W : World} {fuel : Nat} {cs : List Value} {y : DataW H × List MemPlace} (h : DataW.trod enc Tryd.prog W 0 (fun _ => true) true fuel 30 cs = some y) (ht : Tiny y.1) :
    ∃ v l, cs = [v] ∧ RF adrF W (· < W.heap.size) v l ∧ l.length ≤ 1048576 ∧ ∀ a ∈ l, AdrOk a :=
  open_flatT (Q := Tiny) (Qe := Tiny) adrF Tryd.underlying30 (by kernel_rfl) (fun _ _ _ h hd => h.elem hd) (fun _ _ h => h.len) (fun fuel cs x h hs => by
    obtain ⟨a, e, hz⟩ := trod_adr h hs
    exact ⟨a, e, hz⟩) h ht
set_option maxRecDepth 100000 in
theorem open_ses {H : Type} {enc : TypeId × Value → H} {W : World} {base : Nat} {v : Value} {d : DataW H} {p : List MemPlace} (k : Value.okWide Tryd.prog W .any base 32 v) (h : DataW.Trod enc Tryd.prog W 0 (fun _ => true) true 32 v d p) (ht : Tiny d) :
    ∃ (s : Ses) (u : Value), v = s.val u ∧ RF adrF W (· < W.heap.size) u s.tos ∧ s.tos.length ≤ 1048576 ∧ SesBound s := by
  obtain ⟨cs, rfl, hsz⟩ := okWide_struct Tryd.underlying32 k
  obtain ⟨fuel, h⟩ := h
  obtain ⟨xs, n, hy, hx, hlen, hxl, hf⟩ := DataW.trod_struct Tryd.underlying32 h
  rw [show Tryd.prog.cellsOf 32 = 6 by kernel_rfl] at hlen
  have c1 : Tryd.prog.cellsOf 3 = 1 := by kernel_rfl
  have c2 : Tryd.prog.cellsOf 23 = 2 := by kernel_rfl
  have c3 : Tryd.prog.cellsOf 30 = 1 := by kernel_rfl
  have c4 : Tryd.prog.cellsOf 9 = 1 := by kernel_rfl
  have c5 : Tryd.prog.cellsOf 4 = 1 := by kernel_rfl
  simp only [Value.cells] at h hlen hf
  generalize hcs : cs.toList = l at h hlen hf
  match l, hlen, xs, hxl with
  | [a0, a1, a2, a3, a4, a5], _, [x0, x1, x2, x3, x4], _ =>
    have f0 := hf 0 _ rfl
    have f1 := hf 1 _ rfl
    have f2 := hf 2 _ rfl
    have f3 := hf 3 _ rfl
    have f4 := hf 4 _ rfl
    simp [c1, c2, c3, c4, c5] at f0 f1 f2 f3 f4
    have hd := congrArg Prod.fst hx
    dsimp only [List.map_cons, List.map_nil] at hd
    rw [hd] at ht
    obtain ⟨st, e0, _, _⟩ := DataW.trod_int Tryd.underlying3 f0
    obtain ⟨a, e1, ha⟩ := trod_adr f1 (ht.part (j := 1) rfl)
    obtain ⟨u, tos, e2, hr, hl, hok⟩ := trod_adrs f2 (ht.part (j := 2) rfl)
    obtain ⟨tx, e3, q3, _⟩ := DataW.trod_string Tryd.underlying9 f3
    obtain ⟨lg, e4, _⟩ := DataW.trod_bool Tryd.underlying4 f4
    simp only [List.cons.injEq, and_true] at e0 e1 e2 e3 e4
    obtain ⟨e1, e1'⟩ := e1
    subst e0 e1 e1' e2 e3 e4
    have t3 := ht.part (j := 3) rfl
    rw [q3] at t3
    refine ⟨⟨st, a, tos, tx, lg⟩, _, ?_, hr, hl, ⟨text_size t3, ha, hok⟩⟩
    rw [← Array.toArray_toList (xs := cs), hcs]
    rfl
set_option maxRecDepth 100000 in
theorem lmtpChecks_run {H : Type} {enc : TypeId × Value → H} (W : World) (base : Nat) (v0 : Value) (d0 : DataW H) (p0 : List MemPlace)
    (k0 : Value.okWide Tryd.prog W .any base 32 v0) (h0 : DataW.Trod enc Tryd.prog W 0 (fun _ => true) true 32 v0 d0 p0) (t0 : Tiny d0)
    (hL : laidMetH Tryd.prog Rows.lmtpChecksRow.laid W) (hsh : W.ShapedOpen Tryd.prog) :
    Calls Tryd.prog 5 #[v0] W fun e W' => e = .returned (.bool true) ∧ Below W.heap.size W W' := by
  obtain ⟨s, u, rfl, hr, hl, hb⟩ := open_ses k0 h0 t0
  exact lmtpChecks_walk s u W hr hb (by omega) (Lib0.open_ hsh)
end Go.Proofs.YtddiolgeaefieaaDoor

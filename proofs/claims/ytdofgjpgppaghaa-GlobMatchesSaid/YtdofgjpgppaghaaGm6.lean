/- glob.Match at a pattern: the pieces are collected, then matched. -/
import Derived.Test.YtdofgjpgppaghaaGm5
import Derived.Test.YtdofgjpgppaghaaGlobF
import Derived.Maps.AppendAt
import Derived.Outline
namespace Go.Proofs.Ytdofgjpgppaghaa
open Go.RowKit
set_option linter.unusedSimpArgs false
set_option linter.unusedVariables false
open Go.Shelf
attribute [local go_sem] Oper.semAt_some
theorem pieces_stops (n : Nat) (hn : 1 ≤ n) (Bp : Nat) (p : ByteArray) (hp : p.size ≤ 100) (w : World) (hB : Bp < w.heap.size) (hc : w.cell? ⟨Bp, 0, none⟩ = some (.string p)) :
    SeqStopsK Fence.wide n Try.prog 61 #[.pointer (some ⟨Bp, 0, none⟩)] (fun x : Pc => #[Value.agg #[.int .u8 x.c.toNat, .bool x.one, .bool x.many]]) (KeepB Bp) (fun ys => ys = piecesOf (bs p)) (fun _ => True) p.size w := fun l J Jx W hW hJ _ hY h0 =>
  pieces1_in n hn l Bp p hp J Jx (fun s A B hs hg => hJ s A B none hs hg (by simp)) hY W ((hW.cell (p := ⟨Bp, 0, none⟩) hB).trans hc) h0
/-- a piece in a box of its own -/
def Box3 (W : World) (B : Nat) (x : Pc) : Prop := W.heap[B]? = some (.cells #[.int .u8 x.c.toNat, .bool x.one, .bool x.many] 86 (0, 0))
theorem Box3.new (W : World) (x : Pc) : Box3 (W.alloc (.cells #[.int .u8 x.c.toNat, .bool x.one, .bool x.many] 86)) W.heap.size x := heap_alloc_new W _
theorem Box3.lt {W : World} {B : Nat} {x : Pc} (h : Box3 W B x) : B < W.heap.size := (Array.getElem?_eq_some_iff.1 h).1
theorem Box3.cells {W : World} {B : Nat} {x : Pc} (h : Box3 W B x) : W.cell? ⟨B, 0, none⟩ = some (.int .u8 x.c.toNat) ∧ W.cell? ⟨B, 1, none⟩ = some (.bool x.one) ∧ W.cell? ⟨B, 2, none⟩ = some (.bool x.many) := by
  have h' : W.heap[B]? = _ := h
  refine ⟨?_, ?_, ?_⟩ <;> (rw [cell_of_row _ _ _ _ _ (0, 0) h']; rfl)
theorem pc_new (W : World) (x : Pc) : ∀ (j : Nat) (u : Value), (pcF.enc x)[j]? = some u → (W.alloc (.cells #[.int .u8 x.c.toNat, .bool x.one, .bool x.many] 86)).cell? ((⟨W.heap.size, 0, none⟩ : Addr).add j) = some u := by
  obtain ⟨h0, h1, h2⟩ := (Box3.new W x).cells
  intro j u hu
  match j, hu with
  | 0, hu => injection hu with hu; subst hu; exact h0
  | 1, hu => injection hu with hu; subst hu; exact h1
  | 2, hu => injection hu with hu; subst hu; exact h2
theorem putObj_other (W : World) (l b : Nat) (o : Obj) (h : b ≠ l) : (W.putObj l o).heap[b]? = W.heap[b]? := by
  simp only [World.putObj]
  rw [Array.getElem?_setIfInBounds]
  simp [Ne.symm h]
theorem own_not {W : World} {base b k : Nat} {v q : Value} {xs : List Value} (h : W.ownsRow base 86 3 v k xs) (hb : Boxed W b 9 q) : some b ≠ v.ownBlock := by
  intro e
  rcases h.2 with ⟨rfl, _⟩ | ⟨g, cap, cur, rfl, _, hh, _⟩
  · cases e
  · have : b = g := by simpa [Value.ownBlock] using e
    subst this
    rw [show W.heap[b]? = _ from hb] at hh
    injection hh with hh
    injection hh with _ h2
    exact absurd h2 (by decide)
theorem info_piece : (Try.prog.info? 86).map (fun i => (i.zero, i.size, i.bytes)) = some (some (.agg #[.int .u8 0, .bool false, .bool false]), 3, 3) := by kernel_rfl
def MatPost (s p : ByteArray) (w : World) (e : Ending) (w' : World) : Prop := ∃ b, e = .returned (.tuple #[.bool b, .int .i64 0]) ∧ (b = true ↔ PM (piecesOf (foldL p)) (foldL s)) ∧ Below w.heap.size w w'
theorem pieces_any (p : ByteArray) (w : World) : Calls Try.prog 49 #[.string p] w fun e w' => e = .returned (.func (.func 61) #[] #[.pointer (some ⟨w.heap.size, 0, none⟩)]) ∧ w' = w.alloc (.cells #[.string p] 9) := by
  go_enter Try.func49, Try.ntmps49
  go_wp2_with fail
  go_ret
  exact ⟨rfl, rfl⟩
set_option maxRecDepth 100000 in
set_option maxHeartbeats 2000000 in
theorem Match_pat (s p : ByteArray) (w : World) (hs : s.size ≤ 2000) (hp : p.size ≤ 100) : Calls Try.prog 30 #[.int .i64 3, .string s, .string p] w (MatPost s p w) := by
  refine (callsIn_wide (n := 6)).1 ?_
  refine callsIn_of_wp_marks Try.func30 rfl trivial ?_ rfl
  simp only [Try.ntmps30, List.size_toArray, List.length_cons, List.length_nil, Nat.reduceAdd, Nat.reduceSub, Array.replicate_succ, Array.replicate_zero, List.push_toArray, List.append_toArray, List.nil_append, List.cons_append]
  have i1 : ¬ ((2000 : Int) < s.size) := by omega
  have i2 : ¬ ((100 : Int) < p.size) := by omega
  have i3 : decide ((100 : Int) < p.size) = false := by simpa using i2
  clear i2
  have tok : True := trivial
  gi_wp2_with (first
    | (refine ⟨trivial, ?_⟩; gi_at_call 33; clear tok; refine (callsIn_wide.2 (fold_any _ _ (by omega))).mono ?_; rintro e w0 ⟨rfl, hb0⟩)
    | (refine ⟨trivial, ?_⟩; gi_at_call 33; refine (callsIn_wide.2 (fold_any _ _ (by omega))).mono ?_; rintro e w1 ⟨rfl, hb1⟩)
    | (refine ⟨trivial, ?_⟩; gi_at_call 49; refine (callsIn_wide.2 (pieces_any _ _)).mono ?_; rintro e w2 ⟨rfl, rfl⟩))
  have hwz := hb1.size
  have bO := Boxed.new w1 82 (.slice none 0 0)
  have bN := Boxed.new (w1.alloc (.cells #[.slice none 0 0] 82)) 9 (.string (mk (foldL p)))
  rw [World.size_alloc] at bN
  have HB0 := Lib.hid ((hb0.trans (hb1.mono hb0.size)))
  have hfz : (mk (foldL p)).size = p.size := by rw [mk_size, foldL_len]
  have hpl : (piecesOf (foldL p)).length ≤ p.size := by
    have := pieces_len _ (foldL p) (Nat.le_refl _)
    rw [foldL_len] at this
    exact this
  obtain ⟨i0, hi, hz0, hz1, hz2⟩ := info_parts info_piece
  have HB1 : Below w.heap.size w ((w1.alloc (.cells #[.slice none 0 0] 82)).alloc (.cells #[.string (mk (foldL p))] 9)) := (HB0.out.alloc HB0.out.size _).alloc (by have := HB0.out.size; simp; omega) _
  obtain ⟨q, hq⟩ : ∃ q, q = mk (foldL p) := ⟨_, rfl⟩
  obtain ⟨r, hr⟩ : ∃ r, r = mk (foldL s) := ⟨_, rfl⟩
  have hqs : bs q = foldL p := by rw [hq, bs_mk]
  have hrs : bs r = foldL s := by rw [hr, bs_mk]
  have hrz : r.size ≤ 2000 := by rw [hr, mk_size, foldL_len]; exact hs
  rw [← hq] at HB1 bN hfz ⊢
  rw [← hr]
  rw [← hqs] at hpl
  have HQ := Lib.hid hqs
  have HRR := Lib.hid hrs
  clear hq hr hqs hrs
  obtain ⟨W0, hW0⟩ : ∃ W0, (w1.alloc (.cells #[.slice none 0 0] 82)).alloc (.cells #[.string q] 9) = W0 := ⟨_, rfl⟩
  have bO1 := bO.alloc (.cells #[.string q] 9)
  have hsz : W0.heap.size = w1.heap.size + 2 := by rw [← hW0]; simp
  have hbz := HB0.out.size
  have hsz1 : w1.heap.size + 2 ≤ W0.heap.size := by omega
  have HSZ := Lib.hid hsz
  clear hsz
  rw [hW0] at HB1 bN bO1 ⊢
  clear hW0 bO hb0 hb1
  refine wpIn_rangeFunc_ownH rfl (by omega) (gf := 61) (lb := #[.pointer (some ⟨w1.heap.size + 1, 0, none⟩)]) rfl trivial (enters_of Try.func61 (by kernel_rfl) rfl)
    (pieces_stops 5 (by omega) (w1.heap.size + 1) q (by omega) W0 (by omega) bN.cell) KeepB.trans (fun W l o o' hl _ _ _ => ⟨putObj_other W l (w1.heap.size + 1) o' (by omega), by simp [World.putObj]⟩) (Below.refl _ _) (fun _ => rfl)
    (fun pre W => ((∃ v, Boxed W w1.heap.size 82 v ∧ W.ownsRow w1.heap.size 86 3 v pre.length (pre.flatMap pcF.enc) ∧ True) ∧ Boxed W (w1.heap.size + 1) 9 (.string q)) ∧ Below w1.heap.size W0 W)
    (fun _ _ _ => False)
    (OwnFrom.and (OwnFrom.and (Own.from (holdsRow_own w1.heap.size w1.heap.size 82 86 3 (fun pre : List Pc => pre.length) (fun pre => pre.flatMap pcF.enc) (fun _ _ => True)) _) (Own.from (boxed_own _ _ (fun _ : List Pc => Value.string q)) _)) (ownFrom_below (by omega) (by omega)))
    (fun _ _ _ _ _ hs _ _ => hs)
    ⟨⟨⟨_, bO1, World.ownsRow_nil _ _ _ _, trivial⟩, bN⟩, Below.refl _ _⟩
    (fun x a' W => ∃ Bx, w1.heap.size + 1 < Bx ∧ Box3 W Bx x ∧ a' = { tmps := #[.int .i64 3, .string s, .string p, undef, undef, undef, .bool false, .int .i64 0, .string r, .string q, .pointer (some ⟨w1.heap.size, 0, none⟩), .pointer (some ⟨Bx, 0, none⟩), .int .i64 3, .bool false, .bool false, .int .i64 3, .bool false, .bool false, .string s, .int .i64 s.size, .bool false, .bool false, .string p, .int .i64 p.size, .bool false, .bool false, .string s, .string r, .string p, .string q, .int .i64 3, .bool false, .bool false, undef, undef, undef, .bool false, .bool false, undef, undef, undef, .string q, .func (.func 61) #[] #[.pointer (some ⟨w1.heap.size + 1, 0, none⟩)], .agg #[.int .u8 x.c.toNat, .bool x.one, .bool x.many], undef, undef, undef, undef, undef, undef, undef], defers := [] })
    (fun x a' _ X Y row hs hg hr => by
      obtain ⟨Bx, h1, h2, h3⟩ := hs
      refine ⟨Bx, h1, ?_, h3⟩
      unfold Box3 at h2 ⊢
      rw [hg.block Bx (Array.getElem?_eq_some_iff.1 h2).1 (fun e => by
        obtain ⟨_, o, ho, hc⟩ := hr Bx e.symm
        rw [h2] at ho
        cases ho
        cases hc)]
      exact h2)
    ?assign ?body ?done ?stop
  case assign =>
    rintro l pre x W K ⟨⟨⟨v, hv, hrow, _⟩, hN⟩, hB⟩ hK
    have hvl := hv.lt
    have hB' := hB.size
    gi_wp2
    exact hK _ _ ((KeepsOthers.alloc _ _).from _) (KeepB.of_below (Below.alloc (Below.refl W.heap.size W) (Nat.le_refl _) _) (by omega)) ⟨⟨⟨v, hv.alloc _, hrow.alloc _, trivial⟩, hN.alloc _⟩, hB.alloc (by omega) _⟩ ⟨W.heap.size, by omega, Box3.new W x, rfl⟩
  case body =>
    rintro l pre x a' W hl _ ⟨⟨⟨v, hv, hrow, _⟩, hN⟩, hB⟩ ⟨Bx, hBx, bX, rfl⟩ hlt
    have hc := hv.cell
    obtain ⟨x0, x1, x2⟩ := bX.cells
    have hB' := hB.size
    have HR := Lib.hid hrow
    have HV := Lib.hid hv
    have HBB := Lib.hid hB
    have HN := Lib.hid hN
    clear hrow hv hB hN
    gi_wp2_with (gi_at_builtin; refine wpListIn_append_own _ rfl _ _ 82 rfl w1.heap.size 86 i0 (.agg #[.int .u8 0, .bool false, .bool false]) 3 3 Try.underlying82 hi hz0 hz1 hz2 rfl (by decide) _ _ _ rfl (HR.out.alloc _) ⟨W.heap.size, 0, none⟩ 1 1 (pcF.enc x) rfl rfl (pc_new W x) (pcF.one x) (by unfold maxLen; omega) (by omega) (by simp; omega) ?_; intro v' w2 hown' hgrow _; obtain ⟨g', cap', rfl⟩ := ownsRow_succ hown'; obtain ⟨hv1, hv2, hr2, hk2, hb2⟩ := HV.out.appended (by decide) HR.out (by omega) (Nat.le_refl _) hown' hgrow; have hc1 := hv1.cell; have hf1 := hv1.frozen)
    have hN2 := ((HN.out.alloc (.cells #[.int .u8 x.c.toNat, .bool x.one, .bool x.many] 86)).kept hgrow (own_not HR.out HN.out)).other (by omega) (B' := w1.heap.size) (.slice (some ⟨g', 0, none⟩) (pre.length + 1) cap')
    have hkeep : KeepB (w1.heap.size + 1) W (w2.setCell ⟨w1.heap.size, 0, none⟩ (.slice (some ⟨g', 0, none⟩) (pre.length + 1) cap')) := ⟨Eq.trans hN2 (Eq.symm HN.out), hb2.size⟩
    exact ⟨hk2.from _, hkeep, ⟨⟨_, hv2, by rw [List.flatMap_append]; simpa using hr2, trivial⟩, hN2⟩, HBB.out.trans hb2⟩
  case done =>
    rintro D ys W hD rfl ⟨⟨⟨v, hv, hrow, _⟩, hN⟩, hB⟩ hK
    have hc := hv.cell
    have hB' := hB.size
    have hrf : RF pcF W (· < W.heap.size) v (piecesOf (bs q)) := (RF.of_own rfl hrow).mono fun b hb => hb.2
    have HR := Lib.hid hrf
    have HBB := Lib.hid hB
    have HK := Lib.hid hK
    clear hrow hB hrf
    gi_wp2_with (refine ⟨trivial, ?_⟩; gi_at_call 50; refine (callsIn_wide.2 (matches_any r _ _ _ hrz (by omega) HR.out)).mono ?_; rintro e w3 ⟨b, rfl, hbt, d, rfl⟩; have HT := Lib.hid hbt; clear hbt)
    refine ⟨by simp, .inl ⟨_, _, rfl, run_takeDeferred HK.out, ?_⟩⟩
    refine ⟨_, results_tmp2 rfl _ _ _, b, rfl, by rw [← HQ.out, ← HRR.out]; exact HT.out, ?_⟩
    exact (below_drewN (HB1.trans (HBB.out.mono hbz)) d).trans (belowK_b (w := w) (Nat.le_refl _) (W.drewN d) D _ _ (by omega) HK.out rfl rfl)
  case stop =>
    rintro D c pre W _ _ h _
    exact h.elim
end Go.Proofs.Ytdofgjpgppaghaa

/- Texts that the laws rest on, packed. -/
import Derived.Test.YthhfbolhlbgbgaaDoorGD
import Derived.Lib.Builder
import Derived.Lib.AppendStr
import Derived.Lib.Walk
import Derived.Laws.Externs
import Derived.Laws.BitsLemmas
import Derived.Deep.RegionHeld3
import Derived.Test.YthhfbolhlbgbgaaDoorShelf
import Derived.Test.YthhfbolhlbgbgaaDoorGL
import Derived.Test.YthhfbolhlbgbgaaDoorGW
namespace Go.Proofs.YthhfbolhlbgbgaaDoor
open Go.RowKit
set_option linter.unusedSimpArgs false
set_option linter.unusedVariables false
set_option maxHeartbeats 1000000 in
set_option maxRecDepth 100000 in
/-- copyCheck at a builder that has been used -/
theorem cc_used (b : Nat) (w : World) (h0 : w.cell? ⟨b, 0, none⟩ = some (.pointer (some ⟨b, 0, none⟩))) :
    Calls Tryd.prog 137 #[.pointer (some ⟨b, 0, none⟩)] w fun e w' => e = .returned (.tuple #[]) ∧ w' = w := by
  obtain ⟨j, hj, _⟩ := Option.map_eq_some_iff.1 (show (Tryd.prog.info? 159).map (·.size) = some 2 by kernel_rfl)
  go_enter Tryd.func137, Tryd.ntmps137
  go_wp2
  rw [Lib.run_neq_ptr_same w _ Tryd.underlying157 hj]
  go_wp2
  go_end0
  exact ⟨rfl, rfl⟩
set_option maxHeartbeats 1000000 in
set_option maxRecDepth 100000 in
/-- copyCheck at a fresh builder: it stores its own address -/
theorem cc_fresh (b : Nat) (w : World) (h0 : w.cell? ⟨b, 0, none⟩ = some (.pointer none)) (hsh : w.shape? b = some (159, 2)) (hfz : w.frozen? ⟨b, 0, none⟩ = false) :
    Calls Tryd.prog 137 #[.pointer (some ⟨b, 0, none⟩)] w fun e w' => e = .returned (.tuple #[]) ∧ w' = w.setCell ⟨b, 0, none⟩ (.pointer (some ⟨b, 0, none⟩)) := by
  obtain ⟨j, hj, hjs⟩ := Option.map_eq_some_iff.1 (show (Tryd.prog.info? 159).map (·.size) = some 2 by kernel_rfl)
  have hlies : liesAt Tryd.prog Tryd.prog.depth 159 (2 / Tryd.prog.cellsOf 159) 0 159 1 = true := by kernel_rfl
  go_enter Tryd.func137, Tryd.ntmps137
  go_wp2
  rw [Lib.run_to_unsafe w ⟨b, 0, none⟩ Tryd.underlying157 Tryd.underlying195 hj (by rw [hjs]; decide) hsh (Nat.zero_lt_succ 1)]
  simp only [Result.andThen]
  rw [Oper.upon_value]
  go_wp2
  rw [run_callFunc_extern Tryd.func154 (by kernel_rfl) (by kernel_rfl) (by kernel_rfl) (e := Extern.AbiNoEscape.same) (by kernel_rfl)]
  rw [Lib.run_noEscape]
  simp only [Result.andThen]
  rw [Oper.upon_value]
  go_wp2
  rw [Lib.run_from_unsafe w ⟨b, 0, none⟩ Tryd.underlying195 Tryd.underlying157 hj hsh hlies]
  simp only [Result.andThen]
  rw [Oper.upon_value]
  go_wp2
  go_end0
  exact ⟨rfl, rfl⟩
theorem cc_any (B b : Nat) (bs : List Value) (w : World) (h : Lib.IsBuilder 159 5 B b bs w) :
    Calls Tryd.prog 137 #[.pointer (some ⟨b, 0, none⟩)] w fun e w' => e = .returned (.tuple #[]) ∧ (Lib.BuilderAt 159 5 B b (.pointer (some ⟨b, 0, none⟩)) bs w' ∧ Below B w w') := by
  rcases h with h | h
  · refine (cc_fresh b w h.cell0 h.shape h.frozen0).mono ?_
    rintro e w' ⟨rfl, rfl⟩
    exact ⟨rfl, h.used _, (Below.refl B w).setCell (p := ⟨b, 0, none⟩) h.1 _⟩
  · refine (cc_used b w h.cell0).mono ?_
    rintro e w' ⟨rfl, rfl⟩
    exact ⟨rfl, h, Below.refl B _⟩
set_option maxHeartbeats 2000000 in
set_option maxRecDepth 100000 in
theorem build_ws (B b : Nat) (bs : List Value) (s : ByteArray) (w : World) (h : Lib.IsBuilder 159 5 B b bs w) (hlen : bs.length + s.size ≤ 140737488355328) (hBw : B ≤ w.heap.size) :
    Calls Tryd.prog 115 #[.pointer (some ⟨b, 0, none⟩), .string s] w fun e w' => e = .returned (.tuple #[.int .i64 s.size, .nilIface]) ∧ (Lib.BuilderAt 159 5 B b (.pointer (some ⟨b, 0, none⟩)) (bs ++ Lib.strCells s) w' ∧ Below B w w') := by
  obtain ⟨i0, hi, hz0, hz1, hz2⟩ := info_parts (show (Tryd.prog.info? 5).map (fun i => (i.zero, i.size, i.bytes)) = some (some (.int .u8 0), 1, 1) by kernel_rfl)
  go_enter Tryd.func115, Tryd.ntmps115
  go_wp2_with (go_at_call 137; refine (cc_any B b bs _ h).mono ?_)
  rintro e w1 ⟨rfl, h1, hb1⟩
  obtain ⟨hB, v, hbk, hown, hne⟩ := h1
  have c0 : w1.cell? ⟨b, 0, none⟩ = some (.pointer (some ⟨b, 0, none⟩)) := by rw [Lib.cell_of_heap hbk]; rfl
  have c1 : w1.cell? ⟨b, 1, none⟩ = some v := by rw [Lib.cell_of_heap hbk]; rfl
  go_wp2_with (at_builtin; refine Lib.wpList_append_own_string _ rfl _ _ 33 9 rfl B 5 i0 Tryd.underlying33 Tryd.underlying9 hi hz0 hz1 hz2 _ _ _ rfl hown s rfl ?c3 ?c4 ?c5 ?_)
  case c3 => unfold maxLen; omega
  case c4 => omega
  case c5 => have := hb1.size; omega
  intro v' w2 hown' hgrow _
  have hlt : b < w1.heap.size := by
    rcases Nat.lt_or_ge b w1.heap.size with h' | h'
    · exact h'
    · simp [Array.getElem?_eq_none h'] at hbk
  have hb2 : w2.heap[b]? = some (.cells #[.pointer (some ⟨b, 0, none⟩), v] 159 (0, 0)) := by
    rw [hgrow.block b hlt (fun e => hne e.symm)]
    exact hbk
  have d0 : w2.cell? ⟨b, 0, none⟩ = some (.pointer (some ⟨b, 0, none⟩)) := by rw [Lib.cell_of_heap hb2]; rfl
  have d1 : w2.cell? ⟨b, 1, none⟩ = some v := by rw [Lib.cell_of_heap hb2]; rfl
  have f1 : w2.frozen? ⟨b, 1, none⟩ = false := Lib.frozen_of_heap hb2 1
  obtain ⟨ao, n', cap, rfl⟩ : ∃ ao n' cap, v' = .slice ao n' cap := by
    rcases hown'.2 with ⟨hv, _⟩ | ⟨g, cap, cur, hv, _⟩
    · exact ⟨_, _, _, hv⟩
    · exact ⟨_, _, _, hv⟩
  go_wp2
  go_ret2
  refine ⟨rfl, ?_, ?_⟩
  · exact Lib.BuilderAt.put (T := 159) (e := 5) hB hb2 (bs' := bs ++ Lib.strCells s) (by simpa [Lib.strCells_length] using hown') (by decide)
  · exact (hb1.grown hgrow (by have := hb1.size; omega) (fun k hk => (hown.lt k hk).1)).setCell (p := ⟨b, 1, none⟩) hB _
end Go.Proofs.YthhfbolhlbgbgaaDoor

namespace Go.Proofs.YthhfbolhlbgbgaaDoor
open Go.RowKit
set_option linter.unusedSimpArgs false
set_option linter.unusedVariables false
/-- fields as text -/
def lineM (f : List UInt8 × List UInt8) : List UInt8 := f.1 ++ ([58, 32] ++ (f.2 ++ [13, 10]))
def linesM : List (List UInt8 × List UInt8) → List UInt8
  | [] => []
  | f :: l => lineM f ++ linesM l
def textM (l : List (List UInt8 × List UInt8)) (body : List UInt8) : List UInt8 := linesM l ++ ([13, 10] ++ body)
theorem linesM_app : ∀ (l : List (List UInt8 × List UInt8)) (x : List UInt8 × List UInt8), linesM (l ++ [x]) = linesM l ++ lineM x
  | [], x => by simp [linesM]
  | y :: l, x => by simp [linesM, linesM_app l x]
/-- the fields' cells -/
def FldAt (w : World) (bb off : Nat) (l : List (ByteArray × ByteArray)) : Prop := ∀ (i : Nat) (x : ByteArray × ByteArray), l[i]? = some x → w.cell? ⟨bb, off + i * 2, none⟩ = some (.string x.1) ∧ w.cell? ⟨bb, off + (i * 2 + 1), none⟩ = some (.string x.2)
def bsF (x : ByteArray × ByteArray) : List UInt8 × List UInt8 := (bs x.1, bs x.2)
theorem isB_alloc {T e : TypeId} {B b : Nat} {xs : List Value} {w : World} (h : Lib.IsBuilder T e B b xs w) (o : Obj) : Lib.IsBuilder T e B b xs (w.alloc o) := by
  have key : ∀ p, Lib.BuilderAt T e B b p xs w → Lib.BuilderAt T e B b p xs (w.alloc o) := fun p h => by
    have hlt := h.lt
    obtain ⟨hB, v, hb, hown, hne⟩ := h
    exact ⟨hB, v, (Lib.alloc_old w o b hlt).trans hb, hown.alloc o, hne⟩
  rcases h with h | h
  · exact .inl (key _ h)
  · exact .inr (key _ h)
theorem byteCells_app (a c : List UInt8) : Lib.byteCells a ++ Lib.byteCells c = Lib.byteCells (a ++ c) := by simp [Lib.byteCells]
theorem linesM_len : ∀ (l : List (ByteArray × ByteArray)), (∀ x ∈ l, x.1.size ≤ 1048576 ∧ x.2.size ≤ 1048576) → (linesM (l.map bsF)).length ≤ l.length * 2097156
  | [], _ => by simp [linesM]
  | x :: l, h => by
    have h1 := h x (List.mem_cons_self ..)
    have h2 := linesM_len l fun y hy => h y (List.mem_cons_of_mem _ hy)
    simp only [List.map_cons, linesM, lineM, bsF, List.length_append, List.length_cons, List.length_nil, bs_len]
    omega
structure SH (w : World) (l : List (ByteArray × ByteArray)) (body : ByteArray) (k : Nat) (wr : World) : Prop where
  bel : Below w.heap.size w wr
  c1 : wr.cell? ⟨w.heap.size, 1, none⟩ = some (.string body)
  bld : Lib.IsBuilder 159 5 (w.heap.size + 1) (w.heap.size + 1) (Lib.byteCells (linesM ((l.take k).map bsF))) wr
  sz : w.heap.size + 2 ≤ wr.heap.size
theorem SH.start (w : World) (l : List (ByteArray × ByteArray)) (body : ByteArray) (v : Value) : SH w l body 0 ((w.alloc (.cells #[v, .string body] 64)).alloc (.cells #[.pointer none, .slice none 0 0] 159)) := by
  refine ⟨?_, ?_, ?_, ?_⟩
  · exact ((Below.refl _ _).alloc (Nat.le_refl _) _).alloc (by simp) _
  · rw [World.cell?_alloc_old _ _ _ (by simp), World.cell?_alloc_new]; rfl
  · refine .inl ⟨Nat.le_refl _, .slice none 0 0, ?_, ?_, ?_⟩
    · have := heap_alloc_new (w.alloc (.cells #[v, .string body] 64)) (.cells #[.pointer none, .slice none 0 0] 159)
      rwa [show (w.alloc (.cells #[v, .string body] 64)).heap.size = w.heap.size + 1 by simp] at this
    · simpa [linesM, Lib.byteCells] using World.ownsRow_nil _ _ _ _
    · simp [Value.ownBlock]
  · simp
set_option maxHeartbeats 2000000 in
theorem show_any (l : List (ByteArray × ByteArray)) (A : Option Addr) (c bb off : Nat) (body : ByteArray) (w : World) (hA : 0 < l.length → A = some ⟨bb, off, none⟩) (hF : FldAt w bb off l) (hn : l.length ≤ 1048576) (hz : ∀ x ∈ l, x.1.size ≤ 1048576 ∧ x.2.size ≤ 1048576) (hb : body.size ≤ 1048576) :
    Calls Tryd.prog 83 #[.agg #[.slice A l.length c, .string body]] w fun e w' => e = .returned (.string ⟨(textM (l.map bsF) (bs body)).toArray⟩) ∧ Below w.heap.size w w' := by
  go_enter Tryd.func83, Tryd.ntmps83
  go_wp2_with fail
  have H0 := Lib.hid (SH.start w l body (.slice A l.length c))
  go_loopw [9] (fun i wr => ∃ k : Nat, k ≤ l.length ∧ i = .int .i64 k ∧ SH w l body k wr)
    (fun i _ => l.length - (intOf i).toNat)
  case atStart => exact ⟨0, Nat.zero_le _, rfl, H0.out⟩
  case round =>
    obtain ⟨k, hk, rfl, hR⟩ := hrel
    by_cases hlt : k < l.length
    · have hAe := hA (by omega)
      subst hAe
      have hl : l[k]? = some l[k] := List.getElem?_eq_getElem hlt
      obtain ⟨f0, f1⟩ := hF k _ hl
      have hbb := World.block_lt_of_cell? (w := w) (a := ⟨bb, off + k * 2, none⟩) f0
      have g0 := (hR.bel.cell (p := ⟨bb, off + k * 2, none⟩) hbb).trans f0
      have g1 := (hR.bel.cell (p := ⟨bb, off + (k * 2 + 1), none⟩) hbb).trans f1
      rw [← Nat.add_assoc] at g1
      obtain ⟨z1, z2⟩ := hz _ (List.getElem_mem hlt)
      go_wp2_with fail
      refine (build_ws (w.heap.size + 1) (w.heap.size + 1) (Lib.byteCells (linesM ((l.take k).map bsF))) _ _ ?_ ?_ ?_).mono ?_
      · exact isB_alloc hR.bld _
      · have h1 := linesM_len (l.take k) (fun x hx => hz x (List.mem_of_mem_take hx))
        have h2 : (l.take k).length = k := by simp; omega
        rw [h2] at h1
        simp only [Lib.byteCells_length, ByteArray.size_append]
        have h3 : ByteArray.size { data := #[58, 32] } = 2 := rfl
        have h4 : ByteArray.size { data := #[13, 10] } = 2 := rfl
        omega
      · have := hR.sz; simp; omega
      · rintro e w1 ⟨rfl, hb1, hbel⟩
        go_wp2_with fail
        refine ⟨⟨k + 1, by omega, by go_num, ?_, ?_, ?_, ?_⟩, by simp [intOf]; omega⟩
        · exact (hR.bel.alloc hR.bel.size _).trans (hbel.mono (Nat.le_succ _))
        · have hs := hR.sz
          rw [hbel.cell (p := ⟨w.heap.size, 1, none⟩) (Nat.lt_succ_self _), World.cell?_alloc_old _ _ _ (by simp; omega)]
          exact hR.c1
        · refine .inr ?_
          have e1 : l.take (k + 1) = l.take k ++ [l[k]] := by rw [List.take_add_one, hl]; rfl
          have e2 : Lib.strCells (l[k].1 ++ { data := #[58, 32] } ++ l[k].2 ++ { data := #[13, 10] }) = Lib.byteCells (lineM (bsF l[k])) := by
            simp [Lib.strCells, Lib.byteCells, lineM, bsF, bs, ByteArray.data_append]
          rw [e1, List.map_append, List.map_cons, List.map_nil, linesM_app, ← byteCells_app, ← e2]
          exact hb1
        · have h1 := hbel.size
          have h2 := hR.sz
          simp at h1
          omega
    · have hkl : k = l.length := by omega
      subst hkl
      have hbl := hR.bld
      rw [List.take_length] at hbl
      have hc1 := hR.c1
      have hs := hR.sz
      have hll := linesM_len l hz
      have q1 : ¬ 9223372036854775807 < (linesM (List.map bsF l)).length + 2 := by omega
      have q2 : ¬ 9223372036854775807 < (linesM (List.map bsF l)).length + 2 + body.size := by omega
      go_wp2_with fail
      go_region_held3 (fun w' => w'.cell? ⟨w.heap.size, 1, none⟩ = some (.string body)) (((try dsimp only); (repeat' apply And.intro) <;> (go_keep; done))) (first | (go_at_call 116; refine (Tryd.Builder_String_any (w.heap.size + 1) (w.heap.size + 1) _ _ (by exact hbl) (by show w.heap.size + 1 ≤ wr.heap.size; omega)).mono ?_; rintro e wq ⟨rfl, hq1⟩; have hq2 := (hq1.cell (p := ⟨w.heap.size, 1, none⟩) (Nat.lt_succ_self _)).trans hc1))
      go_wp2_with fail
      go_ret
      refine ⟨?_, ?_⟩
      · have e : ({ data := (linesM (List.map bsF l)).toArray } ++ { data := #[13, 10] } ++ body : ByteArray) = ⟨(textM (l.map bsF) (bs body)).toArray⟩ := by
          apply ByteArray.ext
          simp [ByteArray.data_append, textM, bs]
        rw [e]
        rfl
      · exact hR.bel.drew.trans (hq1.mono (Nat.le_succ _))
end Go.Proofs.YthhfbolhlbgbgaaDoor

namespace Go.Proofs.YthhfbolhlbgbgaaDoor
open Go.RowKit
set_option linter.unusedSimpArgs false
set_option linter.unusedVariables false
open Go.RowKit
theorem textM_len (l : List (Tx × Tx)) (body : Tx) (hn : l.length ≤ 1048576) (hz : ∀ f ∈ l, f.1.length ≤ 1048576 ∧ f.2.length ≤ 1048576) (hb : body.length ≤ 1048576) : (textM l body).length ≤ 4398046511104 := by
  have key : ∀ l : List (Tx × Tx), (∀ f ∈ l, f.1.length ≤ 1048576 ∧ f.2.length ≤ 1048576) → (linesM l).length ≤ l.length * 2097156 := by
    intro l
    induction l with
    | nil => intro _; simp [linesM]
    | cons x l ih =>
      intro h
      have h1 := h x (List.mem_cons_self ..)
      have h2 := ih fun y hy => h y (List.mem_cons_of_mem _ hy)
      simp only [linesM, lineM, List.length_append, List.length_cons, List.length_nil]
      omega
  have := key l hz
  simp only [textM, List.length_append, List.length_cons, List.length_nil]
  omega
theorem show_p (T : Tbl) (l : List (Tx × Tx)) (body : Tx) (hn : l.length ≤ 1048576) (hz : ∀ f ∈ l, f.1.length ≤ 1048576 ∧ f.2.length ≤ 1048576) (hb : body.length ≤ 1048576) :
    PC Tryd.prog T 83 [.agg [.d (.slc 2 (fldsD l)), .d (.str body)]] (.d (.str (textM l body))) := PC.old Tryd.call83 fun F w vs hF hT R => by
  obtain ⟨v, rfl, hv⟩ := slr1 R
  obtain ⟨us, rfl, hr⟩ := hv.agg_inv
  obtain ⟨v1, v2, rfl, h1, h2⟩ := slr2 hr
  cases h1 with
  | d h1 =>
    cases h2 with
    | d h2 =>
      obtain ⟨b2, rfl, rfl, _⟩ := h2.str_inv
      obtain ⟨A, c, e, _, _, _, _, hx⟩ := h1.slc_inv
      subst e
      let l' : List (ByteArray × ByteArray) := l.map fun f => (⟨f.1.toArray⟩, ⟨f.2.toArray⟩)
      have el : l'.map bsF = l := by
        simp only [l', List.map_map]
        conv => rhs; rw [← List.map_id l]
        apply List.map_congr_left
        intro f _
        simp [bsF, bs]
      have eln : (fldsD l).length = l'.length := by simp [l', fldsD]
      obtain ⟨bb, off, hA, hF2⟩ : ∃ bb off, (0 < l'.length → A = some ⟨bb, off, none⟩) ∧ FldAt w bb off l' := by
        rcases Nat.eq_zero_or_pos l'.length with h0 | h0
        · refine ⟨0, 0, fun h => by omega, fun i x hx => ?_⟩
          rw [List.eq_nil_of_length_eq_zero h0] at hx
          simp at hx
        · obtain ⟨bb, off, val, hA, hx⟩ := hx (by omega)
          refine ⟨bb, off, fun _ => hA, fun i x hi => ?_⟩
          rw [List.getElem?_map] at hi
          obtain ⟨f, hf, rfl⟩ := Option.map_eq_some_iff.1 hi
          have hrow : (fldsD l)[i]? = some [.str f.1, .str f.2] := by simp [fldsD, hf, fldD]
          obtain ⟨a1, a2⟩ := hx i _ 0 (.str f.1) hrow rfl
          obtain ⟨c1, c2⟩ := hx i _ 1 (.str f.2) hrow rfl
          obtain ⟨t1, e1, e2, _⟩ := a2.str_inv
          obtain ⟨t2, e3, e4, _⟩ := c2.str_inv
          rw [e1] at a1
          rw [e3] at c1
          have q1 : t1 = ⟨f.1.toArray⟩ := by rw [← e2]
          have q2 : t2 = ⟨f.2.toArray⟩ := by rw [← e4]
          rw [q1] at a1
          rw [q2] at c1
          exact ⟨hF _ _ _ a1, hF _ _ _ c1⟩
      rw [eln]
      refine (show_any l' A c bb off b2 w hA hF2 (by simpa [l'] using hn) (fun x hx => by
        simp only [l', List.mem_map] at hx
        obtain ⟨f, hf, rfl⟩ := hx
        exact hz f hf) (by rw [← bs_len]; exact hb)).mono ?_
      rintro e w' ⟨rfl, hbw⟩
      rw [el]
      exact ⟨_, rfl, hbw, .d (VD.bstr _ (Nat.le_trans (textM_len l _ hn hz hb) (by decide)))⟩
theorem Contains_p (T : Tbl) (hL : LibT T) (s sub : Tx) (h1 : s.length ≤ 1048576) : PC Tryd.prog T 82 [.d (.str s), .d (.str sub)] (.d (.bool (decide (0 ≤ Lib.index s sub)))) := PC.old Tryd.call82 fun F w vs hF hT R => by
  obtain ⟨v, u, rfl, hv, hu⟩ := slr2 R
  cases hv with
  | d hv =>
    cases hu with
    | d hu =>
      obtain ⟨t, rfl, e1, _⟩ := hv.str_inv
      obtain ⟨t2, rfl, e2, _⟩ := hu.str_inv
      obtain ⟨_, m, hm⟩ := hL.lib0 hF hT
      subst e1 e2
      have hsz : t.size ≤ 1048576 := by rw [← size_data]; exact h1
      refine (Tryd.strings_Contains t t2 m w (by omega) hm).mono ?_
      rintro e w' ⟨rfl, rfl⟩
      exact ⟨_, rfl, Below.refl _ _, .d (.bool _)⟩
end Go.Proofs.YthhfbolhlbgbgaaDoor

namespace Go.Proofs.YthhfbolhlbgbgaaDoor
set_option linter.unusedSimpArgs false
set_option linter.unusedVariables false
theorem fldsD_g3 {l : List (Tx × Tx)} {i : Nat} {d : List D} (h : i < l.length) : (fldsD l).getD i d = [.str (l.getD i ([], [])).1, .str (l.getD i ([], [])).2] := by
  rw [fldsD_get l i d h]; simp [fldD, List.getD, h]
structure MsgOk (l : List (Tx × Tx)) (t : Tx) : Prop where
  hn : l.length ≤ 1048576
  hz : ∀ f ∈ l, f.1.length ≤ 1048576 ∧ f.2.length ≤ 1048576
  hb : t.length ≤ 1048576
theorem MsgOk.get {l : List (Tx × Tx)} {t : Tx} (h : MsgOk l t) {i : Nat} (hi : i < l.length) : (l.getD i ([], [])).1.length ≤ 1048576 ∧ (l.getD i ([], [])).2.length ≤ 1048576 := by
  have := h.hz (l[i]'hi) (List.getElem_mem hi)
  simpa [List.getD, hi] using this
/-- a field that may be -/
def fOk (f : Tx × Tx) : Bool := nmL f.1 && !decide (0 ≤ Lib.index f.2 [13, 10]) && decide (trimS f.2 = f.2)
/-- what is wrong with a message -/
def msgE (l : List (Tx × Tx)) (t : Tx) : Int := if 30 < l.length then 5 else if l.all fOk = true then (if 2000 < (textM l t).length then 1 else 0) else 3
section
variable {l : List (Tx × Tx)} {t : Tx} {k : Nat}
theorem me_5 (h : 30 < l.length) : msgE l t = 5 := if_pos h
theorem all_not (hk : k < l.length) (h : fOk (l.getD k ([], [])) = false) : ¬ l.all fOk = true := fun ha => by
  have := List.all_eq_true.1 ha (l[k]'hk) (List.getElem_mem hk)
  rw [show l.getD k ([], []) = l[k]'hk by simp [List.getD, hk], this] at h
  cases h
theorem me_3 (h : ¬ 30 < l.length) (hk : k < l.length) (hf : fOk (l.getD k ([], [])) = false) : msgE l t = 3 := by rw [msgE, if_neg h, if_neg (all_not hk hf)]
theorem fo_step (hk : k < l.length) (h : (l.take k).all fOk = true) (hf : fOk (l.getD k ([], [])) = true) : (l.take (k + 1)).all fOk = true := by
  rw [List.take_add_one, List.all_append, h, List.getElem?_eq_getElem hk]
  rw [show l.getD k ([], []) = l[k]'hk by simp [List.getD, hk]] at hf
  simp [hf]
theorem fo_end (hk : l.length ≤ k) (h : (l.take k).all fOk = true) : l.all fOk = true := by rwa [List.take_of_length_le hk] at h
theorem me_1 (h : ¬ 30 < l.length) (ha : l.all fOk = true) (hs : 2000 < (textM l t).length) : msgE l t = 1 := by rw [msgE, if_neg h, if_pos ha, if_pos hs]
theorem me_0 (h : ¬ 30 < l.length) (ha : l.all fOk = true) (hs : ¬ 2000 < (textM l t).length) : msgE l t = 0 := by rw [msgE, if_neg h, if_pos ha, if_neg hs]
end
set_option maxRecDepth 4000 in
set_option maxHeartbeats 1000000 in
theorem sameMsg_c (T : Tbl) (l : List (Tx × Tx)) (t : Tx) (hl : l.length ≤ 10000000000000) : PC Tryd.prog T 38 [.agg [.d (.slc 2 (fldsD l)), .d (.str t)], .agg [.d (.slc 2 (fldsD l)), .d (.str t)]] (.d (.bool true)) := by
  refine ⟨Tryd.call38, PCall.enterS Tryd.func38 rfl Tryd.ntmps38 rfl fun hb => ?_⟩
  simp only [go_sem, Tryd.results38]
  refine AWp.rs fun K1 hK1 => ?_
  try simp only [go_sem, icast, fldsD_len, bne_self_eq_false, decide_true, Bool.not_true]
  intro b2
  first | intro fb2 | have fb2 := True.intro
  try simp only [freshL] at fb2
  intro b3
  first | intro fb3 | have fb3 := True.intro
  try simp only [freshL] at fb3
  refine hK1 _ _ ?_
  try clear hK1 K1
  refine AWp.seq fun K2 hK2 => ?_
  refine AWp.rs fun K3 hK3 => ?_
  try simp only [go_sem, icast, fldsD_len, bne_self_eq_false, decide_true, Bool.not_true, fb2, fb3]
  refine hK3 _ _ ?_
  try clear hK3 K3
  refine AWp.mask [false, false, true, true, false, false, false, false, false, false, false, false, false, false, false, false, false, false, true] rfl ?_
  simp only [go_sem]
  refine AWp.cond _ rfl (fun hc0 => ?_) (fun hc0 => ?_)
  · skip
    exact absurd hc0 (by simp)
  · skip
    try simp only [decide_eq_true_eq, decide_eq_false_iff_not, Bool.not_eq_true', Bool.not_eq_false', Bool.and_eq_true, Bool.or_eq_true, Bool.and_eq_false_iff, Bool.or_eq_false_iff, Int.not_lt, Int.not_le, beq_iff_eq, beq_eq_false_iff_ne, ne_eq, Bool.not_eq_true, Bool.not_eq_false] at hc0
    refine AWp.skip ?_
    refine thenQ_n ?_
    refine hK2 _ _ ?_
    try clear hK2 K2
    refine AWp.seq fun K4 hK4 => ?_
    refine AWp.rs fun K5 hK5 => ?_
    try simp only [go_sem, icast, fldsD_len, bne_self_eq_false, decide_true, Bool.not_true, fb2, fb3]
    refine hK5 _ _ ?_
    try clear hK5 K5
    refine AWp.block ?_
    refine AWp.mask [true, true, true] rfl ?_
    simp only [go_sem]
    refine AWp.loopS [true, true] [false, false, true] (fun n lc hc => ∃ (k : Nat), n = l.length - k ∧ EqS lc [(5, .d (.int .i64 k))] ∧ EqS hc (⟨[(b3, ⟨2, 1, [[.d (.slc 2 (fldsD l)), .d (.str t)]]⟩), (b2, ⟨2, 1, [[.d (.slc 2 (fldsD l)), .d (.str t)]]⟩)], []⟩) ∧ (k ≤ l.length)) rfl ?_ ?_
    · refine ⟨_, 0, rfl, ?_, ?_, ?_⟩
      · (try simp only [go_sem, icast, fldsD_len, bne_self_eq_false, decide_true, Bool.not_true, fb2, fb3]) <;> first | exact ⟨rfl⟩ | (constructor; simp; done)
      · (try simp only [go_sem, icast, fldsD_len, bne_self_eq_false, decide_true, Bool.not_true, fb2, fb3]) <;> first | exact ⟨rfl⟩ | (constructor; simp; done)
      all_goals (first | omega | rfl | (simp; done) | (simp; omega) | assumption)
    · rintro _ _ _ ⟨k, rfl, ⟨rfl⟩, ⟨rfl⟩, h1⟩
      simp only [go_sem]
      refine AWp.seq fun K6 hK6 => ?_
      refine AWp.rs fun K7 hK7 => ?_
      try simp only [go_sem, icast, fldsD_len, bne_self_eq_false, decide_true, Bool.not_true, fb2, fb3]
      refine hK7 _ _ ?_
      try clear hK7 K7
      refine AWp.mask [true, true, true, false, false, false, false, true] rfl ?_
      simp only [go_sem]
      refine AWp.cond _ rfl (fun hc1 => ?_) (fun hc1 => ?_)
      · skip
        try simp only [decide_eq_true_eq, decide_eq_false_iff_not, Bool.not_eq_true', Bool.not_eq_false', Bool.and_eq_true, Bool.or_eq_true, Bool.and_eq_false_iff, Bool.or_eq_false_iff, Int.not_lt, Int.not_le, beq_iff_eq, beq_eq_false_iff_ne, ne_eq, Bool.not_eq_true, Bool.not_eq_false] at hc1
        have hlt : k < l.length := by omega
        refine AWp.skip ?_
        refine thenQ_n ?_
        refine hK6 _ _ ?_
        try clear hK6 K6
        refine AWp.seq fun K8 hK8 => ?_
        refine AWp.block ?_
        refine AWp.ds true [0, 1, 2, 3, 4, 5, 6, 7, 8, 9, 10] rfl (by kernel_rfl) fun K9 hK9 => ?_
        try simp only [go_sem, icast, fldsD_len, bne_self_eq_false, decide_true, Bool.not_true, fb2, fb3, fldsD_g3 hlt]
        (repeat (with_reducible refine And.intro ?_ ?_; omega))
        refine hK9 _ _ ?_
        try clear hK9 K9
        refine AWp.mask [true, true, true, false, false, false, false, false, false, false, false, false, false, false, true] rfl ?_
        simp only [go_sem]
        refine AWp.cond _ rfl (fun hc2 => ?_) (fun hc2 => ?_)
        · skip
          exact absurd hc2 (by simp)
        · skip
          try simp only [decide_eq_true_eq, decide_eq_false_iff_not, Bool.not_eq_true', Bool.not_eq_false', Bool.and_eq_true, Bool.or_eq_true, Bool.and_eq_false_iff, Bool.or_eq_false_iff, Int.not_lt, Int.not_le, beq_iff_eq, beq_eq_false_iff_ne, ne_eq, Bool.not_eq_true, Bool.not_eq_false] at hc2
          refine AWp.skip ?_
          refine blkQ_n (thenQ_n ?_)
          refine hK8 _ _ ?_
          try clear hK8 K8
          refine AWp.rk fun K10 hK10 => ?_
          try simp only [go_sem, icast, fldsD_len, bne_self_eq_false, decide_true, Bool.not_true, fb2, fb3, fldsD_g3 hlt]
          (repeat (with_reducible refine And.intro ?_ ?_; omega))
          refine hK10 _ _ ?_
          try clear hK10 K10
          refine thenQ_n ?_
          refine EndS.mk [true, true] [false, false, true] [] [] [b3, b2] [] rfl ?_ ?_
          · (try simp only [go_sem, icast, fldsD_len, bne_self_eq_false, decide_true, Bool.not_true, fb2, fb3, fldsD_g3 hlt]) <;> try rfl
          refine .e ⟨_, ?_, k + 1, rfl, ?_, ?_, ?_⟩
          · first | omega | (simp; omega) | (grind)
          · (try simp only [go_sem, icast, fldsD_len, bne_self_eq_false, decide_true, Bool.not_true, fb2, fb3, fldsD_g3 hlt]) <;> first | exact ⟨rfl⟩ | (constructor; simp; done)
          · (try simp only [go_sem, icast, fldsD_len, bne_self_eq_false, decide_true, Bool.not_true, fb2, fb3, fldsD_g3 hlt]) <;> first | exact ⟨rfl⟩ | (constructor; simp; done)
          all_goals (first | omega | assumption | grind)
      · skip
        try simp only [decide_eq_true_eq, decide_eq_false_iff_not, Bool.not_eq_true', Bool.not_eq_false', Bool.and_eq_true, Bool.or_eq_true, Bool.and_eq_false_iff, Bool.or_eq_false_iff, Int.not_lt, Int.not_le, beq_iff_eq, beq_eq_false_iff_ne, ne_eq, Bool.not_eq_true, Bool.not_eq_false] at hc1
        refine AWp.exit ?_
        refine thenQ_e (thenQ_e (blkQ_e (thenQ_n ?_)))
        refine hK4 _ _ ?_
        try clear hK4 K4
        refine AWp.mask [] rfl ?_
        simp only [go_sem]
        refine AWp.rs fun K11 hK11 => ?_
        try simp only [go_sem, icast, fldsD_len, bne_self_eq_false, decide_true, Bool.not_true, fb2, fb3]
        refine hK11 _ _ ?_
        try clear hK11 K11
        refine AWp.ret ?_
        try simp only [go_sem, icast, fldsD_len, bne_self_eq_false, decide_true, Bool.not_true, fb2, fb3]
        try simp [LeA, LeL, LeD]
set_option maxRecDepth 4000 in
set_option maxHeartbeats 1000000 in
theorem LCheck_c (T : Tbl) (hL : LibT T) (l : List (Tx × Tx)) (t : Tx) (ok : MsgOk l t) : PC Tryd.prog T 40 [.agg [.d (.slc 2 (fldsD l)), .d (.str t)]] (.d (.int .i64 (msgE l t))) := by
  refine ⟨Tryd.call40, PCall.enterS Tryd.func40 rfl Tryd.ntmps40 rfl fun hb => ?_⟩
  simp only [go_sem, Tryd.results40]
  refine AWp.rs fun K1 hK1 => ?_
  try simp only [go_sem, icast, fldsD_len, Nat.zero_add]
  intro b1
  first | intro fb1 | have fb1 := True.intro
  try simp only [freshL] at fb1
  refine hK1 _ _ ?_
  try clear hK1 K1
  refine AWp.seq fun K2 hK2 => ?_
  refine AWp.rs fun K3 hK3 => ?_
  try simp only [go_sem, icast, fldsD_len, Nat.zero_add, fb1]
  refine hK3 _ _ ?_
  try clear hK3 K3
  refine AWp.mask [false, true, false, false, false, false, true] rfl ?_
  simp only [go_sem]
  refine AWp.cond _ rfl (fun hc0 => ?_) (fun hc0 => ?_)
  · skip
    try simp only [decide_eq_true_eq, decide_eq_false_iff_not, Bool.not_eq_true', Bool.not_eq_false', Bool.and_eq_true, Bool.or_eq_true, Bool.and_eq_false_iff, Bool.or_eq_false_iff, Int.not_lt, Int.not_le, beq_iff_eq, beq_eq_false_iff_ne, ne_eq, Bool.not_eq_true, Bool.not_eq_false] at hc0
    refine AWp.rs fun K4 hK4 => ?_
    try simp only [go_sem, icast, fldsD_len, Nat.zero_add, fb1]
    refine hK4 _ _ ?_
    try clear hK4 K4
    refine AWp.ret ?_
    try simp only [go_sem, icast, fldsD_len, Nat.zero_add, fb1]
    rw [me_5 (by omega)]
  · skip
    try simp only [decide_eq_true_eq, decide_eq_false_iff_not, Bool.not_eq_true', Bool.not_eq_false', Bool.and_eq_true, Bool.or_eq_true, Bool.and_eq_false_iff, Bool.or_eq_false_iff, Int.not_lt, Int.not_le, beq_iff_eq, beq_eq_false_iff_ne, ne_eq, Bool.not_eq_true, Bool.not_eq_false] at hc0
    have hle : ¬ 30 < l.length := by omega
    refine AWp.skip ?_
    refine thenQ_n ?_
    refine hK2 _ _ ?_
    try clear hK2 K2
    refine AWp.seq fun K5 hK5 => ?_
    refine AWp.rs fun K6 hK6 => ?_
    try simp only [go_sem, icast, fldsD_len, Nat.zero_add, fb1]
    refine hK6 _ _ ?_
    try clear hK6 K6
    refine AWp.block ?_
    refine AWp.mask [true, false, false, true, true, true] rfl ?_
    simp only [go_sem]
    refine AWp.loopS [true, true, true] [false, false, false, true] (fun n lc hc => ∃ (k : Nat), n = l.length - k ∧ EqS lc [(13, .d (.int .i64 k))] ∧ EqS hc (⟨[(b1, ⟨2, 1, [[.d (.slc 2 (fldsD l)), .d (.str t)]]⟩)], []⟩) ∧ (k ≤ l.length) ∧ ((l.take k).all fOk = true)) rfl ?_ ?_
    · refine ⟨_, 0, rfl, ?_, ?_, ?_, ?_⟩
      · (try simp only [go_sem, icast, fldsD_len, Nat.zero_add, fb1]) <;> first | exact ⟨rfl⟩ | (constructor; simp; done)
      · (try simp only [go_sem, icast, fldsD_len, Nat.zero_add, fb1]) <;> first | exact ⟨rfl⟩ | (constructor; simp; done)
      all_goals (first | omega | rfl)
    · rintro _ _ _ ⟨k, rfl, ⟨rfl⟩, ⟨rfl⟩, h1, h2⟩
      simp only [go_sem]
      refine AWp.rs fun K7 hK7 => ?_
      try simp only [go_sem, icast, fldsD_len, Nat.zero_add, fb1]
      refine hK7 _ _ ?_
      try clear hK7 K7
      refine AWp.seq fun K8 hK8 => ?_
      refine AWp.cond _ rfl (fun hc1 => ?_) (fun hc1 => ?_)
      · skip
        try simp only [decide_eq_true_eq, decide_eq_false_iff_not, Bool.not_eq_true', Bool.not_eq_false', Bool.and_eq_true, Bool.or_eq_true, Bool.and_eq_false_iff, Bool.or_eq_false_iff, Int.not_lt, Int.not_le, beq_iff_eq, beq_eq_false_iff_ne, ne_eq, Bool.not_eq_true, Bool.not_eq_false] at hc1
        have hlt : k < l.length := by omega
        obtain ⟨z1, z2⟩ := ok.get hlt
        refine AWp.skip ?_
        refine thenQ_n ?_
        refine hK8 _ _ ?_
        try clear hK8 K8
        refine AWp.seq fun K9 hK9 => ?_
        refine AWp.block ?_
        refine AWp.rs fun K10 hK10 => ?_
        try simp only [go_sem, icast, fldsD_len, Nat.zero_add, fb1, fldsD_g3 hlt]
        (repeat (with_reducible refine And.intro ?_ ?_; omega))
        intro b4
        first | intro fb4 | have fb4 := True.intro
        try simp only [freshL] at fb4
        refine hK10 _ _ ?_
        try clear hK10 K10
        refine AWp.ds true [0, 1, 2, 3, 4, 5, 6, 7, 8, 9, 10, 11, 12, 13, 14, 15, 16] rfl (by kernel_rfl) fun K11 hK11 => ?_
        try simp only [go_sem, icast, fldsD_len, Nat.zero_add, fb1, fldsD_g3 hlt, fb4]
        refine DW.pcr rfl rfl rfl rfl (fname_c T (l.getD k ([], [])).1 (by omega)) rfl rfl ?_
        try simp only [go_sem, icast, fldsD_len, Nat.zero_add, fb1, fldsD_g3 hlt, fb4]
        refine DW.pcgr rfl rfl rfl rfl rfl (fun hg => Contains_p T hL (l.getD k ([], [])).2 [13, 10] (by omega)) (fun hg => by (try simp only [go_sem, icast, fldsD_len, Nat.zero_add, fb1, fldsD_g3 hlt, fb4]) <;> first | exact hg | (exfalso; simp at hg; done) | (simpa using hg) | grind) rfl rfl ?_
        try simp only [go_sem, icast, fldsD_len, Nat.zero_add, fb1, fldsD_g3 hlt, fb4]
        (repeat (with_reducible refine And.intro ?_ ?_; (exact nfB)))
        refine DW.pcgr rfl rfl rfl rfl rfl (fun hg => Trim_c T (l.getD k ([], [])).2 (by omega)) (fun hg => by (try simp only [go_sem, icast, fldsD_len, Nat.zero_add, fb1, fldsD_g3 hlt, fb4]) <;> first | exact hg | (exfalso; simp at hg; done) | (simpa using hg) | grind) rfl rfl ?_
        try simp only [go_sem, icast, fldsD_len, Nat.zero_add, fb1, fldsD_g3 hlt, fb4]
        (repeat (with_reducible refine And.intro ?_ ?_; (exact nfB)))
        refine hK11 _ _ ?_
        try clear hK11 K11
        refine AWp.mask [true, false, true, true, true, false, false, false, false, false, false, false, false, false, false, false, false, false, false, false, false, false, false, false, true] rfl ?_
        simp only [go_sem]
        refine AWp.cond _ rfl (fun hc2 => ?_) (fun hc2 => ?_)
        · skip
          try simp only [decide_eq_true_eq, decide_eq_false_iff_not, Bool.not_eq_true', Bool.not_eq_false', Bool.and_eq_true, Bool.or_eq_true, Bool.and_eq_false_iff, Bool.or_eq_false_iff, Int.not_lt, Int.not_le, beq_iff_eq, beq_eq_false_iff_ne, ne_eq, Bool.not_eq_true, Bool.not_eq_false] at hc2
          have hfo : fOk (l.getD k ([], [])) = false := by
            unfold fOk
            rcases hc2 with (h | h) | h
            · rw [h]; rfl
            · rw [decide_eq_true h]; simp
            · rw [decide_eq_false h]; simp
          refine AWp.rs fun K12 hK12 => ?_
          try simp only [go_sem, icast, fldsD_len, Nat.zero_add, fb1, fldsD_g3 hlt, fb4]
          refine hK12 _ _ ?_
          try clear hK12 K12
          refine AWp.mask [false, true] rfl ?_
          simp only [go_sem]
          refine AWp.ret ?_
          try simp only [go_sem, icast, fldsD_len, Nat.zero_add, fb1, fldsD_g3 hlt, fb4]
          rw [me_3 hle hlt hfo]
        · skip
          try simp only [decide_eq_true_eq, decide_eq_false_iff_not, Bool.not_eq_true', Bool.not_eq_false', Bool.and_eq_true, Bool.or_eq_true, Bool.and_eq_false_iff, Bool.or_eq_false_iff, Int.not_lt, Int.not_le, beq_iff_eq, beq_eq_false_iff_ne, ne_eq, Bool.not_eq_true, Bool.not_eq_false] at hc2
          have hfo : fOk (l.getD k ([], [])) = true := by
            unfold fOk
            rw [hc2.1.1, decide_eq_false (show ¬ 0 ≤ Lib.index (l.getD k ([], [])).2 [13, 10] by omega), decide_eq_true hc2.2]
            rfl
          refine AWp.skip ?_
          refine blkQ_n (thenQ_n ?_)
          refine hK9 _ _ ?_
          try clear hK9 K9
          refine AWp.rk fun K13 hK13 => ?_
          try simp only [go_sem, icast, fldsD_len, Nat.zero_add, fb1, fldsD_g3 hlt, fb4]
          (repeat (with_reducible refine And.intro ?_ ?_; omega))
          refine hK13 _ _ ?_
          try clear hK13 K13
          refine thenQ_n ?_
          refine EndS.mk [true, true, true] [false, false, false, true] [b4] [] [b1] [] rfl ?_ ?_
          · (try simp only [go_sem, icast, fldsD_len, Nat.zero_add, fb1, fldsD_g3 hlt, fb4]) <;> try rfl
          refine .e ⟨_, ?_, k + 1, rfl, ?_, ?_, ?_, ?_⟩
          · first | omega | (simp; omega) | (grind)
          · (try simp only [go_sem, icast, fldsD_len, Nat.zero_add, fb1, fldsD_g3 hlt, fb4]) <;> first | exact ⟨rfl⟩ | (constructor; simp; done)
          · (try simp only [go_sem, icast, fldsD_len, Nat.zero_add, fb1, fldsD_g3 hlt, fb4]) <;> first | exact ⟨rfl⟩ | (constructor; simp; done)
          · omega
          · exact fo_step hlt h2 hfo
      · skip
        try simp only [decide_eq_true_eq, decide_eq_false_iff_not, Bool.not_eq_true', Bool.not_eq_false', Bool.and_eq_true, Bool.or_eq_true, Bool.and_eq_false_iff, Bool.or_eq_false_iff, Int.not_lt, Int.not_le, beq_iff_eq, beq_eq_false_iff_ne, ne_eq, Bool.not_eq_true, Bool.not_eq_false] at hc1
        have hall := fo_end (by omega) h2
        refine AWp.exit ?_
        refine thenQ_e (thenQ_e (blkQ_e (thenQ_n ?_)))
        refine hK5 _ _ ?_
        try clear hK5 K5
        refine AWp.mask [true] rfl ?_
        simp only [go_sem]
        refine AWp.seq fun K14 hK14 => ?_
        refine AWp.rs fun K15 hK15 => ?_
        try simp only [go_sem, icast, fldsD_len, Nat.zero_add, fb1]
        refine DW.pcr rfl rfl rfl rfl (show_p T l t ok.hn ok.hz ok.hb) rfl rfl ?_
        try simp only [go_sem, icast, fldsD_len, Nat.zero_add, fb1]
        refine hK15 _ _ ?_
        try clear hK15 K15
        refine AWp.mask [false, true] rfl ?_
        simp only [go_sem]
        refine AWp.rs fun K16 hK16 => ?_
        try simp only [go_sem, icast, fldsD_len, Nat.zero_add, fb1]
        refine hK16 _ _ ?_
        try clear hK16 K16
        refine AWp.cond _ rfl (fun hc3 => ?_) (fun hc3 => ?_)
        · skip
          try simp only [decide_eq_true_eq, decide_eq_false_iff_not, Bool.not_eq_true', Bool.not_eq_false', Bool.and_eq_true, Bool.or_eq_true, Bool.and_eq_false_iff, Bool.or_eq_false_iff, Int.not_lt, Int.not_le, beq_iff_eq, beq_eq_false_iff_ne, ne_eq, Bool.not_eq_true, Bool.not_eq_false] at hc3
          refine AWp.rs fun K17 hK17 => ?_
          try simp only [go_sem, icast, fldsD_len, Nat.zero_add, fb1]
          refine hK17 _ _ ?_
          try clear hK17 K17
          refine AWp.ret ?_
          try simp only [go_sem, icast, fldsD_len, Nat.zero_add, fb1]
          rw [me_1 hle hall (by omega)]
        · skip
          try simp only [decide_eq_true_eq, decide_eq_false_iff_not, Bool.not_eq_true', Bool.not_eq_false', Bool.and_eq_true, Bool.or_eq_true, Bool.and_eq_false_iff, Bool.or_eq_false_iff, Int.not_lt, Int.not_le, beq_iff_eq, beq_eq_false_iff_ne, ne_eq, Bool.not_eq_true, Bool.not_eq_false] at hc3
          refine AWp.skip ?_
          refine thenQ_n ?_
          refine hK14 _ _ ?_
          try clear hK14 K14
          refine AWp.rs fun K18 hK18 => ?_
          try simp only [go_sem, icast, fldsD_len, Nat.zero_add, fb1]
          refine hK18 _ _ ?_
          try clear hK18 K18
          refine AWp.ret ?_
          try simp only [go_sem, icast, fldsD_len, Nat.zero_add, fb1]
          rw [me_0 hle hall (by omega)]
end Go.Proofs.YthhfbolhlbgbgaaDoor

namespace Go.Proofs.YthhfbolhlbgbgaaDoor
open Go.RowKit
set_option linter.unusedSimpArgs false
set_option linter.unusedVariables false
open Go.ChangeShapes Go.WideShapes Go.ChangeAt
set_option maxRecDepth 20000
def fldSz (f : Tx × Tx) : Nat := f.1.length + f.2.length + 1
theorem fldSz_mem : ∀ {l : List (Tx × Tx)} {f : Tx × Tx}, f ∈ l → fldSz f ≤ (l.map fldSz).sum
  | x :: l, f, h => by
    rw [List.map_cons, List.sum_cons]
    rcases List.mem_cons.1 h with rfl | h
    · omega
    · have := fldSz_mem h; omega
theorem fldSz_len : ∀ l : List (Tx × Tx), l.length ≤ (l.map fldSz).sum
  | [] => by simp
  | x :: l => by
    have := fldSz_len l
    rw [List.map_cons, List.sum_cons, List.length_cons, fldSz]; omega
theorem msg_ok {l : List (Tx × Tx)} {t : Tx} (h : (l.map fldSz).sum + t.length ≤ 1048576) : MsgOk l t := by
  have h1 := fldSz_len l
  refine ⟨by omega, fun f hf => ?_, by omega⟩
  have := fldSz_mem hf
  rw [fldSz] at this
  omega
section
variable {H : Type} {enc : TypeId × Value → H} {W : World}
theorem dec_fld (f : Nat) : Dec enc Tryd.prog W fldD fldSz 118 f := by
  cases f with
  | zero => exact .zero
  | succ f =>
    have hs : Dec enc Tryd.prog W (fun s : List UInt8 => [.str s]) (fun s => s.length + 1) 9 f := Dec.str Tryd.underlying9
    exact (Dec.struct Tryd.underlying118 (by kernel_rfl) (.cons (k := 1) hs (by kernel_rfl) rfl (.cons (k := 1) hs (by kernel_rfl) rfl .nil))).map
        (fun (p : Tx × (Tx × Unit)) => (p.1, p.2.1)) (fun p => rfl) (fun p => by simp only [fldSz]; omega)
theorem dec_flds (f : Nat) : Dec enc Tryd.prog W (fun l : List (Tx × Tx) => [.slc 2 (l.map fldD)]) (fun l => (l.map fldSz).sum + 1) 62 f := by
  cases f with
  | zero => exact .zero
  | succ f => exact Dec.slc (dec_fld f) Tryd.underlying62 (by kernel_rfl) (fun _ => rfl) (by decide)
theorem dec_msg (f : Nat) : Dec enc Tryd.prog W (fun p : List (Tx × Tx) × Tx => [.slc 2 (p.1.map fldD), .str p.2]) (fun p => (p.1.map fldSz).sum + p.2.length) 64 f := by
  cases f with
  | zero => exact .zero
  | succ f =>
    have hs : Dec enc Tryd.prog W (fun s : List UInt8 => [.str s]) (fun s => s.length + 1) 9 f := Dec.str Tryd.underlying9
    exact (Dec.struct Tryd.underlying64 (by kernel_rfl) (.cons (k := 1) (dec_flds f) (by kernel_rfl) rfl (.cons (k := 1) hs (by kernel_rfl) rfl .nil))).map
        (fun (p : List (Tx × Tx) × (Tx × Unit)) => (p.1, p.2.1)) (fun p => rfl) (fun p => by dsimp only; omega)
end
end Go.Proofs.YthhfbolhlbgbgaaDoor

namespace Go.Proofs.YthhfbolhlbgbgaaDoor
set_option linter.unusedSimpArgs false
set_option linter.unusedVariables false
theorem el0 (s : Tx) : elI s 0 = Lib.index s [13, 10] := by
  have := Lib.index_ge s [13, 10]
  unfold elI; rw [List.drop_zero]; split <;> omega
theorem lineEnd_0 (T : Tbl) (s : Tx) (hs : s.length ≤ 2000000) : PC Tryd.prog T 77 [.d (.str s), .d (.int .i64 0)] (.d (.int .i64 (Lib.index s [13, 10]))) := by
  have := lineEnd_c T s 0 hs (by omega)
  rwa [el0] at this
theorem lines_split : ∀ (l : List (Tx × Tx)) (k : Nat), (linesM (l.take k)).length ≤ (linesM l).length
  | [], k => by simp
  | x :: l, 0 => by simp [linesM]
  | x :: l, k + 1 => by
    have := lines_split l k
    simp only [List.take_succ_cons, linesM, List.length_append]; omega
theorem lines_step {l : List (Tx × Tx)} {k : Nat} (hk : k < l.length) : linesM (l.take (k + 1)) = linesM (l.take k) ++ lineM (l.getD k ([], [])) := by
  rw [List.take_add_one, List.getElem?_eq_getElem hk, show l.getD k ([], []) = l[k]'hk by simp [List.getD, hk]]
  exact linesM_app _ _
theorem lineM_len (f : Tx × Tx) : (lineM f).length = f.1.length + f.2.length + 4 := by simp only [lineM, List.length_append, List.length_cons, List.length_nil]; omega
theorem textM_lines (l : List (Tx × Tx)) (t : Tx) : (textM l t).length = (linesM l).length + 2 + t.length := by simp only [textM, List.length_append, List.length_cons, List.length_nil]; omega
theorem MsgOk.lines {l : List (Tx × Tx)} {t : Tx} (h : MsgOk l t) : (linesM l).length ≤ 4398046511104 := by
  have h1 := textM_len l t h.hn h.hz h.hb
  have h2 := textM_lines l t
  omega
theorem text_cat (A n v : Tx) : (((A ++ n) ++ [58, 32]) ++ v) ++ [13, 10] = A ++ lineM (n, v) := by simp [lineM]
theorem text_end (l : List (Tx × Tx)) (t : Tx) : (linesM l ++ [13, 10]) ++ t = textM l t := by simp [textM]
set_option maxRecDepth 4000 in
set_option maxHeartbeats 1000000 in
theorem MessageFault_c (T : Tbl) (l : List (Tx × Tx)) (t : Tx) (ok : MsgOk l t) : PC Tryd.prog T 41 [.agg [.d (.slc 2 (fldsD l)), .d (.str t)]] (.d (.int .i64 (msgE l t))) := by
  refine ⟨Tryd.call41, PCall.enterS Tryd.func41 rfl Tryd.ntmps41 rfl fun hb => ?_⟩
  have hln := ok.lines
  have hbt := ok.hb
  have hnl := ok.hn
  simp only [go_sem, Tryd.results41]
  refine AWp.rs fun K1 hK1 => ?_
  try simp only [go_sem, icast, fldsD_len, Nat.zero_add]
  intro b1
  first | intro fb1 | have fb1 := True.intro
  try simp only [freshL] at fb1
  refine hK1 _ _ ?_
  try clear hK1 K1
  refine AWp.seq fun K2 hK2 => ?_
  refine AWp.rs fun K3 hK3 => ?_
  try simp only [go_sem, icast, fldsD_len, Nat.zero_add, fb1]
  refine hK3 _ _ ?_
  try clear hK3 K3
  refine AWp.mask [false, true, false, false, false, false, true] rfl ?_
  simp only [go_sem]
  refine AWp.cond _ rfl (fun hc0 => ?_) (fun hc0 => ?_)
  · skip
    try simp only [decide_eq_true_eq, decide_eq_false_iff_not, Bool.not_eq_true', Bool.not_eq_false', Bool.and_eq_true, Bool.or_eq_true, Bool.and_eq_false_iff, Bool.or_eq_false_iff, Int.not_lt, Int.not_le, beq_iff_eq, beq_eq_false_iff_ne, ne_eq, Bool.not_eq_true, Bool.not_eq_false] at hc0
    refine AWp.rs fun K4 hK4 => ?_
    try simp only [go_sem, icast, fldsD_len, Nat.zero_add, fb1]
    refine hK4 _ _ ?_
    try clear hK4 K4
    refine AWp.ret ?_
    try simp only [go_sem, icast, fldsD_len, Nat.zero_add, fb1]
    rw [me_5 (by omega)]
  · skip
    try simp only [decide_eq_true_eq, decide_eq_false_iff_not, Bool.not_eq_true', Bool.not_eq_false', Bool.and_eq_true, Bool.or_eq_true, Bool.and_eq_false_iff, Bool.or_eq_false_iff, Int.not_lt, Int.not_le, beq_iff_eq, beq_eq_false_iff_ne, ne_eq, Bool.not_eq_true, Bool.not_eq_false] at hc0
    have hle : ¬ 30 < l.length := by omega
    refine AWp.skip ?_
    refine thenQ_n ?_
    refine hK2 _ _ ?_
    try clear hK2 K2
    refine AWp.seq fun K5 hK5 => ?_
    refine AWp.rs fun K6 hK6 => ?_
    try simp only [go_sem, icast, fldsD_len, Nat.zero_add, fb1]
    refine hK6 _ _ ?_
    try clear hK6 K6
    refine AWp.block ?_
    refine AWp.mask [true, true] rfl ?_
    simp only [go_sem]
    refine AWp.loopS [true] [false, true] (fun n lc hc => ∃ (k : Nat), n = l.length - k ∧ EqS lc [(3, .d (.int .i64 (k : Nat)))] ∧ EqS hc (⟨[(b1, ⟨2, 1, [[.d (.slc 2 (fldsD l)), .d (.str t)]]⟩)], []⟩) ∧ (k ≤ l.length) ∧ ((l.take k).all fOk = true)) rfl ?_ ?_
    · refine ⟨_, 0, rfl, ?_, ?_, ?_, ?_⟩
      · (try simp only [go_sem, icast, fldsD_len, Nat.zero_add, fb1]) <;> first | exact ⟨rfl⟩ | (constructor; simp; done)
      · (try simp only [go_sem, icast, fldsD_len, Nat.zero_add, fb1]) <;> first | exact ⟨rfl⟩ | (constructor; simp; done)
      all_goals (first | omega | rfl)
    · rintro _ _ _ ⟨k, rfl, ⟨rfl⟩, ⟨rfl⟩, h1, h2⟩
      simp only [go_sem]
      refine AWp.seq fun K7 hK7 => ?_
      refine AWp.rs fun K8 hK8 => ?_
      try simp only [go_sem, icast, fldsD_len, Nat.zero_add, fb1]
      refine hK8 _ _ ?_
      try clear hK8 K8
      refine AWp.mask [true, true, false, false, false, false, true] rfl ?_
      simp only [go_sem]
      refine AWp.cond _ rfl (fun hc1 => ?_) (fun hc1 => ?_)
      · skip
        try simp only [decide_eq_true_eq, decide_eq_false_iff_not, Bool.not_eq_true', Bool.not_eq_false', Bool.and_eq_true, Bool.or_eq_true, Bool.and_eq_false_iff, Bool.or_eq_false_iff, Int.not_lt, Int.not_le, beq_iff_eq, beq_eq_false_iff_ne, ne_eq, Bool.not_eq_true, Bool.not_eq_false] at hc1
        have hlt : k < l.length := by omega
        obtain ⟨z1, z2⟩ := ok.get hlt
        refine AWp.skip ?_
        refine thenQ_n ?_
        refine hK7 _ _ ?_
        try clear hK7 K7
        refine AWp.seq fun K9 hK9 => ?_
        refine AWp.block ?_
        refine AWp.rs fun K10 hK10 => ?_
        try simp only [go_sem, icast, fldsD_len, Nat.zero_add, fb1, fldsD_g3 hlt]
        (repeat (with_reducible refine And.intro ?_ ?_; omega))
        intro b4
        first | intro fb4 | have fb4 := True.intro
        try simp only [freshL] at fb4
        refine hK10 _ _ ?_
        try clear hK10 K10
        refine AWp.mask [true, true, true] rfl ?_
        simp only [go_sem]
        refine AWp.ds true [0, 1, 2, 3, 4, 5, 6, 7, 8, 9, 10, 11, 12, 13, 14, 15, 16, 17] rfl (by kernel_rfl) fun K11 hK11 => ?_
        try simp only [go_sem, icast, fldsD_len, Nat.zero_add, fb1, fldsD_g3 hlt, fb4]
        refine DW.pcr rfl rfl rfl rfl (nameMay_c T (l.getD k ([], [])).1 (by omega)) rfl rfl ?_
        try simp only [go_sem, icast, fldsD_len, Nat.zero_add, fb1, fldsD_g3 hlt, fb4]
        refine DW.pcgr rfl rfl rfl rfl rfl (fun hg => lineEnd_0 T (l.getD k ([], [])).2 (by omega)) (fun hg => by (try simp only [go_sem, icast, fldsD_len, Nat.zero_add, fb1, fldsD_g3 hlt, fb4]) <;> first | exact hg | (exfalso; simp at hg; done) | (simpa using hg) | grind) rfl rfl ?_
        try simp only [go_sem, icast, fldsD_len, Nat.zero_add, fb1, fldsD_g3 hlt, fb4]
        (repeat (with_reducible refine And.intro ?_ ?_; (exact nfB)))
        refine DW.pcgr rfl rfl rfl rfl rfl (fun hg => trimmed_c T (l.getD k ([], [])).2 (by omega)) (fun hg => by (try simp only [go_sem, icast, fldsD_len, Nat.zero_add, fb1, fldsD_g3 hlt, fb4]) <;> first | exact hg | (exfalso; simp at hg; done) | (simpa using hg) | grind) rfl rfl ?_
        try simp only [go_sem, icast, fldsD_len, Nat.zero_add, fb1, fldsD_g3 hlt, fb4]
        (repeat (with_reducible refine And.intro ?_ ?_; (exact nfB)))
        refine hK11 _ _ ?_
        try clear hK11 K11
        refine AWp.mask [true, true, false, false, false, false, false, false, false, false, false, false, false, false, false, false, false, false, false, false, true] rfl ?_
        simp only [go_sem]
        refine AWp.cond _ rfl (fun hc2 => ?_) (fun hc2 => ?_)
        · skip
          try simp only [decide_eq_true_eq, decide_eq_false_iff_not, Bool.not_eq_true', Bool.not_eq_false', Bool.and_eq_true, Bool.or_eq_true, Bool.and_eq_false_iff, Bool.or_eq_false_iff, Int.not_lt, Int.not_le, beq_iff_eq, beq_eq_false_iff_ne, ne_eq, Bool.not_eq_true, Bool.not_eq_false] at hc2
          have hfo : fOk (l.getD k ([], [])) = false := by
            unfold fOk
            rcases hc2 with (h | h) | h
            · rw [h]; rfl
            · rw [decide_eq_true h]; simp
            · rw [decide_eq_false h]; simp
          refine AWp.rs fun K12 hK12 => ?_
          try simp only [go_sem, icast, fldsD_len, Nat.zero_add, fb1, fldsD_g3 hlt, fb4]
          refine hK12 _ _ ?_
          try clear hK12 K12
          refine AWp.ret ?_
          try simp only [go_sem, icast, fldsD_len, Nat.zero_add, fb1, fldsD_g3 hlt, fb4]
          rw [me_3 hle hlt hfo]
        · skip
          try simp only [decide_eq_true_eq, decide_eq_false_iff_not, Bool.not_eq_true', Bool.not_eq_false', Bool.and_eq_true, Bool.or_eq_true, Bool.and_eq_false_iff, Bool.or_eq_false_iff, Int.not_lt, Int.not_le, beq_iff_eq, beq_eq_false_iff_ne, ne_eq, Bool.not_eq_true, Bool.not_eq_false] at hc2
          have hfo : fOk (l.getD k ([], [])) = true := by
            unfold fOk
            rw [hc2.1.1, decide_eq_false (show ¬ 0 ≤ Lib.index (l.getD k ([], [])).2 [13, 10] by omega), decide_eq_true hc2.2]
            rfl
          refine AWp.skip ?_
          refine blkQ_n (thenQ_n ?_)
          refine hK9 _ _ ?_
          try clear hK9 K9
          refine AWp.rk fun K13 hK13 => ?_
          try simp only [go_sem, icast, fldsD_len, Nat.zero_add, fb1, fldsD_g3 hlt, fb4]
          (repeat (with_reducible refine And.intro ?_ ?_; omega))
          refine hK13 _ _ ?_
          try clear hK13 K13
          refine thenQ_n ?_
          refine EndS.mk [true] [false, true] [b4] [] [b1] [] rfl ?_ ?_
          · (try simp only [go_sem, icast, fldsD_len, Nat.zero_add, fb1, fldsD_g3 hlt, fb4]) <;> try rfl
          refine .e ⟨_, ?_, k + 1, rfl, ?_, ?_, ?_, ?_⟩
          · first | omega | (simp; omega) | (grind)
          · (try simp only [go_sem, icast, fldsD_len, Nat.zero_add, fb1, fldsD_g3 hlt, fb4]) <;> first | exact ⟨rfl⟩ | (constructor; simp; done)
          · (try simp only [go_sem, icast, fldsD_len, Nat.zero_add, fb1, fldsD_g3 hlt, fb4]) <;> first | exact ⟨rfl⟩ | (constructor; simp; done)
          · omega
          · exact fo_step hlt h2 hfo
      · skip
        try simp only [decide_eq_true_eq, decide_eq_false_iff_not, Bool.not_eq_true', Bool.not_eq_false', Bool.and_eq_true, Bool.or_eq_true, Bool.and_eq_false_iff, Bool.or_eq_false_iff, Int.not_lt, Int.not_le, beq_iff_eq, beq_eq_false_iff_ne, ne_eq, Bool.not_eq_true, Bool.not_eq_false] at hc1
        have hall := fo_end (by omega) h2
        refine AWp.exit ?_
        refine thenQ_e (thenQ_e (blkQ_e (thenQ_n ?_)))
        refine hK5 _ _ ?_
        try clear hK5 K5
        refine AWp.rs fun K14 hK14 => ?_
        try simp only [go_sem, icast, fldsD_len, Nat.zero_add, fb1]
        (repeat (with_reducible refine And.intro ?_ ?_; omega))
        refine hK14 _ _ ?_
        try clear hK14 K14
        refine AWp.mask [true, false, true] rfl ?_
        simp only [go_sem]
        refine AWp.seq fun K15 hK15 => ?_
        refine AWp.rs fun K16 hK16 => ?_
        try simp only [go_sem, icast, fldsD_len, Nat.zero_add, fb1]
        refine hK16 _ _ ?_
        try clear hK16 K16
        refine AWp.block ?_
        refine AWp.loopS [true] [false, true, true] (fun n lc hc => ∃ (i : Nat), n = l.length - i ∧ EqS lc [(5, .d (.int .i64 (2 + t.length + (linesM (l.take i)).length : Nat))), (6, .d (.int .i64 (i : Nat)))] ∧ EqS hc (⟨[(b1, ⟨2, 1, [[.d (.slc 2 (fldsD l)), .d (.str t)]]⟩)], []⟩) ∧ (i ≤ l.length)) rfl ?_ ?_
        · refine ⟨_, 0, rfl, ?_, ?_, ?_⟩
          · (try simp only [go_sem, icast, fldsD_len, Nat.zero_add, fb1]) <;> first | exact ⟨rfl⟩ | (constructor; simp [linesM]; done)
          · (try simp only [go_sem, icast, fldsD_len, Nat.zero_add, fb1]) <;> first | exact ⟨rfl⟩ | (constructor; simp; done)
          all_goals (first | omega | rfl | (simp; done) | (simp; omega) | assumption)
        · rintro _ _ _ ⟨i, rfl, ⟨rfl⟩, ⟨rfl⟩, g1⟩
          simp only [go_sem]
          refine AWp.seq fun K17 hK17 => ?_
          refine AWp.rs fun K18 hK18 => ?_
          try simp only [go_sem, icast, fldsD_len, Nat.zero_add, fb1]
          refine hK18 _ _ ?_
          try clear hK18 K18
          refine AWp.mask [true, true, true, false, false, false, false, true] rfl ?_
          simp only [go_sem]
          refine AWp.cond _ rfl (fun hc3 => ?_) (fun hc3 => ?_)
          · skip
            try simp only [decide_eq_true_eq, decide_eq_false_iff_not, Bool.not_eq_true', Bool.not_eq_false', Bool.and_eq_true, Bool.or_eq_true, Bool.and_eq_false_iff, Bool.or_eq_false_iff, Int.not_lt, Int.not_le, beq_iff_eq, beq_eq_false_iff_ne, ne_eq, Bool.not_eq_true, Bool.not_eq_false] at hc3
            have hlj : i < l.length := by omega
            obtain ⟨y1, y2⟩ := ok.get hlj
            have hsp := lines_split l i
            refine AWp.skip ?_
            refine thenQ_n ?_
            refine hK17 _ _ ?_
            try clear hK17 K17
            refine AWp.seq fun K19 hK19 => ?_
            refine AWp.block ?_
            refine AWp.dk true [0, 1, 2, 3, 4, 5, 6, 7, 8, 9, 10, 11, 12, 13, 14, 15, 16, 17, 18] rfl (by kernel_rfl) fun K20 hK20 => ?_
            try simp only [go_sem, icast, fldsD_len, Nat.zero_add, fb1, fldsD_g3 hlj]
            (repeat (with_reducible refine And.intro ?_ ?_; omega))
            refine hK20 _ _ ?_
            try clear hK20 K20
            refine blkQ_n (thenQ_n ?_)
            refine hK19 _ _ ?_
            try clear hK19 K19
            refine AWp.mask [true, true, true] rfl ?_
            simp only [go_sem]
            refine AWp.rk fun K21 hK21 => ?_
            try simp only [go_sem, icast, fldsD_len, Nat.zero_add, fb1, fldsD_g3 hlj]
            (repeat (with_reducible refine And.intro ?_ ?_; omega))
            refine hK21 _ _ ?_
            try clear hK21 K21
            refine thenQ_n ?_
            refine EndS.mk [true] [false, true, true] [] [] [b1] [] rfl ?_ ?_
            · (try simp only [go_sem, icast, fldsD_len, Nat.zero_add, fb1, fldsD_g3 hlj]) <;> try rfl
            refine .e ⟨_, ?_, i + 1, rfl, ?_, ?_, ?_⟩
            · first | omega | (simp; omega) | (grind)
            · (try simp only [go_sem, icast, fldsD_len, Nat.zero_add, fb1, fldsD_g3 hlj]) <;> first | exact ⟨rfl⟩ | (constructor; rw [lines_step hlj, List.length_append, lineM_len]; simp; omega)
            · (try simp only [go_sem, icast, fldsD_len, Nat.zero_add, fb1, fldsD_g3 hlj]) <;> first | exact ⟨rfl⟩ | (constructor; simp; done)
            all_goals (first | omega | assumption | grind)
          · skip
            try simp only [decide_eq_true_eq, decide_eq_false_iff_not, Bool.not_eq_true', Bool.not_eq_false', Bool.and_eq_true, Bool.or_eq_true, Bool.and_eq_false_iff, Bool.or_eq_false_iff, Int.not_lt, Int.not_le, beq_iff_eq, beq_eq_false_iff_ne, ne_eq, Bool.not_eq_true, Bool.not_eq_false] at hc3
            have hi : i = l.length := by omega
            subst hi
            have htl := textM_lines l t
            rw [List.take_length] at *
            refine AWp.exit ?_
            refine thenQ_e (thenQ_e (blkQ_e (thenQ_n ?_)))
            refine hK15 _ _ ?_
            try clear hK15 K15
            refine AWp.seq fun K22 hK22 => ?_
            refine AWp.rs fun K23 hK23 => ?_
            try simp only [go_sem, icast, fldsD_len, Nat.zero_add, fb1]
            refine hK23 _ _ ?_
            try clear hK23 K23
            refine AWp.mask [false, false, false, false, false, true] rfl ?_
            simp only [go_sem]
            refine AWp.cond _ rfl (fun hc4 => ?_) (fun hc4 => ?_)
            · skip
              try simp only [decide_eq_true_eq, decide_eq_false_iff_not, Bool.not_eq_true', Bool.not_eq_false', Bool.and_eq_true, Bool.or_eq_true, Bool.and_eq_false_iff, Bool.or_eq_false_iff, Int.not_lt, Int.not_le, beq_iff_eq, beq_eq_false_iff_ne, ne_eq, Bool.not_eq_true, Bool.not_eq_false] at hc4
              refine AWp.rs fun K24 hK24 => ?_
              try simp only [go_sem, icast, fldsD_len, Nat.zero_add, fb1]
              refine hK24 _ _ ?_
              try clear hK24 K24
              refine AWp.ret ?_
              try simp only [go_sem, icast, fldsD_len, Nat.zero_add, fb1]
              rw [me_1 hle hall (by omega)]
            · skip
              try simp only [decide_eq_true_eq, decide_eq_false_iff_not, Bool.not_eq_true', Bool.not_eq_false', Bool.and_eq_true, Bool.or_eq_true, Bool.and_eq_false_iff, Bool.or_eq_false_iff, Int.not_lt, Int.not_le, beq_iff_eq, beq_eq_false_iff_ne, ne_eq, Bool.not_eq_true, Bool.not_eq_false] at hc4
              refine AWp.skip ?_
              refine thenQ_n ?_
              refine hK22 _ _ ?_
              try clear hK22 K22
              refine AWp.rs fun K25 hK25 => ?_
              try simp only [go_sem, icast, fldsD_len, Nat.zero_add, fb1]
              refine hK25 _ _ ?_
              try clear hK25 K25
              refine AWp.ret ?_
              try simp only [go_sem, icast, fldsD_len, Nat.zero_add, fb1]
              rw [me_0 hle hall (by omega)]
set_option maxRecDepth 4000 in
set_option maxHeartbeats 1000000 in
theorem messageText_c (T : Tbl) (l : List (Tx × Tx)) (t : Tx) (ok : MsgOk l t) : PC Tryd.prog T 84 [.agg [.d (.slc 2 (fldsD l)), .d (.str t)]] (.d (.str (textM l t))) := by
  refine ⟨Tryd.call84, PCall.enterS Tryd.func84 rfl Tryd.ntmps84 rfl fun hb => ?_⟩
  have hln := ok.lines
  have hbt := ok.hb
  have hnl := ok.hn
  simp only [go_sem, Tryd.results84]
  refine AWp.rs fun K1 hK1 => ?_
  try simp only [go_sem, icast, fldsD_len, Nat.zero_add, List.length_append, List.length_cons, List.length_nil]
  intro b1
  first | intro fb1 | have fb1 := True.intro
  try simp only [freshL] at fb1
  refine hK1 _ _ ?_
  try clear hK1 K1
  refine AWp.rs fun K2 hK2 => ?_
  try simp only [go_sem, icast, fldsD_len, Nat.zero_add, List.length_append, List.length_cons, List.length_nil, fb1]
  refine hK2 _ _ ?_
  try clear hK2 K2
  refine AWp.seq fun K3 hK3 => ?_
  refine AWp.rs fun K4 hK4 => ?_
  try simp only [go_sem, icast, fldsD_len, Nat.zero_add, List.length_append, List.length_cons, List.length_nil, fb1]
  refine hK4 _ _ ?_
  try clear hK4 K4
  refine AWp.block ?_
  refine AWp.mask [false, true, false, true, true] rfl ?_
  simp only [go_sem]
  refine AWp.loopS [true] [false, true, true] (fun n lc hc => ∃ (i : Nat), n = l.length - i ∧ EqS lc [(3, .d (.str (linesM (l.take i)))), (4, .d (.int .i64 (i : Nat)))] ∧ EqS hc (⟨[(b1, ⟨2, 1, [[.d (.slc 2 (fldsD l)), .d (.str t)]]⟩)], []⟩) ∧ (i ≤ l.length)) rfl ?_ ?_
  · refine ⟨_, 0, rfl, ?_, ?_, ?_⟩
    · (try simp only [go_sem, icast, fldsD_len, Nat.zero_add, List.length_append, List.length_cons, List.length_nil, fb1]) <;> first | exact ⟨rfl⟩ | (constructor; simp [linesM]; done)
    · (try simp only [go_sem, icast, fldsD_len, Nat.zero_add, List.length_append, List.length_cons, List.length_nil, fb1]) <;> first | exact ⟨rfl⟩ | (constructor; simp; done)
    all_goals (first | omega | rfl | (simp; done) | (simp; omega) | assumption)
  · rintro _ _ _ ⟨i, rfl, ⟨rfl⟩, ⟨rfl⟩, g1⟩
    simp only [go_sem]
    refine AWp.seq fun K5 hK5 => ?_
    refine AWp.rs fun K6 hK6 => ?_
    try simp only [go_sem, icast, fldsD_len, Nat.zero_add, List.length_append, List.length_cons, List.length_nil, fb1]
    refine hK6 _ _ ?_
    try clear hK6 K6
    refine AWp.mask [true, true, true, false, false, false, false, true] rfl ?_
    simp only [go_sem]
    refine AWp.cond _ rfl (fun hc0 => ?_) (fun hc0 => ?_)
    · skip
      try simp only [decide_eq_true_eq, decide_eq_false_iff_not, Bool.not_eq_true', Bool.not_eq_false', Bool.and_eq_true, Bool.or_eq_true, Bool.and_eq_false_iff, Bool.or_eq_false_iff, Int.not_lt, Int.not_le, beq_iff_eq, beq_eq_false_iff_ne, ne_eq, Bool.not_eq_true, Bool.not_eq_false] at hc0
      have hlj : i < l.length := by omega
      obtain ⟨y1, y2⟩ := ok.get hlj
      have hsp := lines_split l i
      refine AWp.skip ?_
      refine thenQ_n ?_
      refine hK5 _ _ ?_
      try clear hK5 K5
      refine AWp.seq fun K7 hK7 => ?_
      refine AWp.block ?_
      refine AWp.dk true [0, 1, 2, 3, 4, 5, 6, 7, 8, 9, 10, 11, 12, 13, 14, 15, 16, 17] rfl (by kernel_rfl) fun K8 hK8 => ?_
      try simp only [go_sem, icast, fldsD_len, Nat.zero_add, List.length_append, List.length_cons, List.length_nil, fb1, fldsD_g3 hlj]
      (repeat (with_reducible refine And.intro ?_ ?_; omega))
      refine hK8 _ _ ?_
      try clear hK8 K8
      refine blkQ_n (thenQ_n ?_)
      refine hK7 _ _ ?_
      try clear hK7 K7
      refine AWp.mask [true, true, true] rfl ?_
      simp only [go_sem]
      refine AWp.rk fun K9 hK9 => ?_
      try simp only [go_sem, icast, fldsD_len, Nat.zero_add, List.length_append, List.length_cons, List.length_nil, fb1, fldsD_g3 hlj]
      (repeat (with_reducible refine And.intro ?_ ?_; omega))
      refine hK9 _ _ ?_
      try clear hK9 K9
      refine thenQ_n ?_
      refine EndS.mk [true] [false, true, true] [] [] [b1] [] rfl ?_ ?_
      · (try simp only [go_sem, icast, fldsD_len, Nat.zero_add, List.length_append, List.length_cons, List.length_nil, fb1, fldsD_g3 hlj]) <;> try rfl
      refine .e ⟨_, ?_, i + 1, rfl, ?_, ?_, ?_⟩
      · first | omega | (simp; omega) | (grind)
      · (try simp only [go_sem, icast, fldsD_len, Nat.zero_add, List.length_append, List.length_cons, List.length_nil, fb1, fldsD_g3 hlj]) <;> first | exact ⟨rfl⟩ | (constructor; rw [lines_step hlj]; simp [lineM]; done)
      · (try simp only [go_sem, icast, fldsD_len, Nat.zero_add, List.length_append, List.length_cons, List.length_nil, fb1, fldsD_g3 hlj]) <;> first | exact ⟨rfl⟩ | (constructor; simp; done)
      all_goals (first | omega | assumption | grind)
    · skip
      try simp only [decide_eq_true_eq, decide_eq_false_iff_not, Bool.not_eq_true', Bool.not_eq_false', Bool.and_eq_true, Bool.or_eq_true, Bool.and_eq_false_iff, Bool.or_eq_false_iff, Int.not_lt, Int.not_le, beq_iff_eq, beq_eq_false_iff_ne, ne_eq, Bool.not_eq_true, Bool.not_eq_false] at hc0
      have hi : i = l.length := by omega
      subst hi
      rw [List.take_length]
      refine AWp.exit ?_
      refine thenQ_e (thenQ_e (blkQ_e (thenQ_n ?_)))
      refine hK3 _ _ ?_
      try clear hK3 K3
      refine AWp.rs fun K10 hK10 => ?_
      try simp only [go_sem, icast, fldsD_len, Nat.zero_add, List.length_append, List.length_cons, List.length_nil, fb1]
      (repeat (with_reducible refine And.intro ?_ ?_; omega))
      refine hK10 _ _ ?_
      try clear hK10 K10
      refine AWp.mask [false, true] rfl ?_
      simp only [go_sem]
      refine AWp.ret ?_
      try simp only [go_sem, icast, fldsD_len, Nat.zero_add, List.length_append, List.length_cons, List.length_nil, fb1]
      rw [text_end]
set_option maxRecDepth 4000 in
set_option maxHeartbeats 1000000 in
theorem LShow_c (T : Tbl) (hL : LibT T) (l : List (Tx × Tx)) (t : Tx) (ok : MsgOk l t) : PC Tryd.prog T 42 [.agg [.d (.slc 2 (fldsD l)), .d (.str t)]] (.tup [.d (.str (if msgE l t = 0 then textM l t else [])), .d (.int .i64 (msgE l t))]) := by
  refine ⟨Tryd.call42, PCall.enterS Tryd.func42 rfl Tryd.ntmps42 rfl fun hb => ?_⟩
  simp only [go_sem, Tryd.results42]
  refine AWp.rs fun K1 hK1 => ?_
  try simp only [go_sem, icast]
  intro b1
  first | intro fb1 | have fb1 := True.intro
  try simp only [freshL] at fb1
  refine hK1 _ _ ?_
  try clear hK1 K1
  refine AWp.seq fun K2 hK2 => ?_
  refine AWp.rs fun K3 hK3 => ?_
  try simp only [go_sem, icast, fb1]
  refine DW.pcr rfl rfl rfl rfl (LCheck_c T hL l t ok) rfl rfl ?_
  try simp only [go_sem, icast, fb1]
  refine hK3 _ _ ?_
  try clear hK3 K3
  refine AWp.mask [false, true, false, false, true] rfl ?_
  simp only [go_sem]
  refine AWp.rs fun K4 hK4 => ?_
  try simp only [go_sem, icast, fb1]
  refine hK4 _ _ ?_
  try clear hK4 K4
  refine AWp.cond _ rfl (fun hc0 => ?_) (fun hc0 => ?_)
  · skip
    try simp only [decide_eq_true_eq, decide_eq_false_iff_not, Bool.not_eq_true', Bool.not_eq_false', Bool.and_eq_true, Bool.or_eq_true, Bool.and_eq_false_iff, Bool.or_eq_false_iff, Int.not_lt, Int.not_le, beq_iff_eq, beq_eq_false_iff_ne, ne_eq, Bool.not_eq_true, Bool.not_eq_false] at hc0
    refine AWp.rs fun K5 hK5 => ?_
    try simp only [go_sem, icast, fb1]
    refine hK5 _ _ ?_
    try clear hK5 K5
    refine AWp.mask [false, true, true] rfl ?_
    simp only [go_sem]
    refine AWp.ret ?_
    try simp only [go_sem, icast, fb1]
    rw [if_neg hc0]
    try simp [LeA, LeL, LeD]
  · skip
    try simp only [decide_eq_true_eq, decide_eq_false_iff_not, Bool.not_eq_true', Bool.not_eq_false', Bool.and_eq_true, Bool.or_eq_true, Bool.and_eq_false_iff, Bool.or_eq_false_iff, Int.not_lt, Int.not_le, beq_iff_eq, beq_eq_false_iff_ne, ne_eq, Bool.not_eq_true, Bool.not_eq_false] at hc0
    refine AWp.skip ?_
    refine thenQ_n ?_
    refine hK2 _ _ ?_
    try clear hK2 K2
    refine AWp.rs fun K6 hK6 => ?_
    try simp only [go_sem, icast, fb1]
    refine DW.pcr rfl rfl rfl rfl (show_p T l t ok.hn ok.hz ok.hb) rfl rfl ?_
    try simp only [go_sem, icast, fb1]
    refine hK6 _ _ ?_
    try clear hK6 K6
    refine AWp.mask [false, true, true] rfl ?_
    simp only [go_sem]
    refine AWp.ret ?_
    try simp only [go_sem, icast, fb1]
    rw [if_pos hc0, hc0]
    try simp [LeA, LeL, LeD]
set_option maxRecDepth 4000 in
set_option maxHeartbeats 1000000 in
theorem MessageShown_c (T : Tbl) (l : List (Tx × Tx)) (t : Tx) (ok : MsgOk l t) : PC Tryd.prog T 43 [.agg [.d (.slc 2 (fldsD l)), .d (.str t)]] (.tup [.d (.str (if msgE l t = 0 then textM l t else [])), .d (.int .i64 (msgE l t))]) := by
  refine ⟨Tryd.call43, PCall.enterS Tryd.func43 rfl Tryd.ntmps43 rfl fun hb => ?_⟩
  simp only [go_sem, Tryd.results43]
  refine AWp.rs fun K1 hK1 => ?_
  try simp only [go_sem, icast]
  intro b1
  first | intro fb1 | have fb1 := True.intro
  try simp only [freshL] at fb1
  refine hK1 _ _ ?_
  try clear hK1 K1
  refine AWp.rs fun K2 hK2 => ?_
  try simp only [go_sem, icast, fb1]
  refine DW.pcr rfl rfl rfl rfl (MessageFault_c T l t ok) rfl rfl ?_
  try simp only [go_sem, icast, fb1]
  refine hK2 _ _ ?_
  try clear hK2 K2
  refine AWp.mask [false, true, false, false, true] rfl ?_
  simp only [go_sem]
  refine AWp.seq fun K3 hK3 => ?_
  refine AWp.rs fun K4 hK4 => ?_
  try simp only [go_sem, icast, fb1]
  refine hK4 _ _ ?_
  try clear hK4 K4
  refine AWp.cond _ rfl (fun hc0 => ?_) (fun hc0 => ?_)
  · skip
    try simp only [decide_eq_true_eq, decide_eq_false_iff_not, Bool.not_eq_true', Bool.not_eq_false', Bool.and_eq_true, Bool.or_eq_true, Bool.and_eq_false_iff, Bool.or_eq_false_iff, Int.not_lt, Int.not_le, beq_iff_eq, beq_eq_false_iff_ne, ne_eq, Bool.not_eq_true, Bool.not_eq_false] at hc0
    refine AWp.rs fun K5 hK5 => ?_
    try simp only [go_sem, icast, fb1]
    refine hK5 _ _ ?_
    try clear hK5 K5
    refine AWp.mask [false, true, true] rfl ?_
    simp only [go_sem]
    refine AWp.ret ?_
    try simp only [go_sem, icast, fb1]
    rw [if_neg hc0]
    try simp [LeA, LeL, LeD]
  · skip
    try simp only [decide_eq_true_eq, decide_eq_false_iff_not, Bool.not_eq_true', Bool.not_eq_false', Bool.and_eq_true, Bool.or_eq_true, Bool.and_eq_false_iff, Bool.or_eq_false_iff, Int.not_lt, Int.not_le, beq_iff_eq, beq_eq_false_iff_ne, ne_eq, Bool.not_eq_true, Bool.not_eq_false] at hc0
    refine AWp.skip ?_
    refine thenQ_n ?_
    refine hK3 _ _ ?_
    try clear hK3 K3
    refine AWp.rs fun K6 hK6 => ?_
    try simp only [go_sem, icast, fb1]
    refine DW.pcr rfl rfl rfl rfl (messageText_c T l t ok) rfl rfl ?_
    try simp only [go_sem, icast, fb1]
    refine hK6 _ _ ?_
    try clear hK6 K6
    refine AWp.mask [false, true, true] rfl ?_
    simp only [go_sem]
    refine AWp.ret ?_
    try simp only [go_sem, icast, fb1]
    rw [if_pos hc0, hc0]
    try simp [LeA, LeL, LeD]
set_option maxRecDepth 4000 in
set_option maxHeartbeats 1000000 in
theorem messages_c (T : Tbl) (l : List (Tx × Tx)) (t : Tx) (ok : MsgOk l t) : PC Tryd.prog T 39 [.agg [.d (.slc 2 (fldsD l)), .d (.str t)]] (.agg [.d (.slc 2 (fldsD l)), .d (.str t)]) := by
  refine ⟨Tryd.call39, PCall.enterS Tryd.func39 rfl Tryd.ntmps39 rfl fun hb => ?_⟩
  have hln := ok.lines
  have hbt := ok.hb
  have hnl := ok.hn
  simp only [go_sem, Tryd.results39]
  refine AWp.rs fun K1 hK1 => ?_
  try simp only [go_sem]
  intro b1
  first | intro fb1 | have fb1 := True.intro
  try simp only [freshL] at fb1
  intro b2
  first | intro fb2 | have fb2 := True.intro
  try simp only [freshL] at fb2
  refine hK1 _ _ ?_
  try clear hK1 K1
  refine AWp.dsC [] AgK.nil rfl [0, 1, 3] 4 [2] [5, 6] rfl (by kernel_rfl) rfl fun K2 hK2 => ?_
  try simp only [go_sem, fb1, fb2]
  try with_reducible refine Exists.intro _ (And.intro (by first | rfl | (simp only [go_sem, fb1, fb2]; first | rfl | exact ⟨by omega, rfl⟩)) ?_)
  refine DW.appNil rfl rfl rfl rfl (show slI Tryd.prog 62 = some (118, 2, 32) by simp only [go_sem]) rfl rfl (by first | exact .inl rfl | exact .inr rfl) (by (try simp only [go_sem, fldsD_len]); omega) (by (try simp only [go_sem, fldsD_len]); omega) fun t1 ft1 => ?_
  try simp only [freshT] at ft1
  try simp only [go_sem, fb1, fb2, ft1]
  try with_reducible refine And.intro (by first | rfl | (simp only [go_sem, fb1, fb2, ft1]; first | done | rfl | exact ⟨by omega, rfl⟩)) ?_
  refine hK2 _ _ ?_
  try clear hK2 K2
  refine AWp.mask [false, false, true] rfl ?_
  simp only [go_sem]
  refine AWp.ret ?_
  try simp only [go_sem, fb1, fb2, ft1]
  try simp [LeA, LeL, LeD]
set_option maxRecDepth 4000 in
set_option maxHeartbeats 1000000 in
theorem letterChecks_c (T : Tbl) (hL : LibT T) (l : List (Tx × Tx)) (t : Tx) (ok : MsgOk l t) : PC Tryd.prog T 10 [.agg [.d (.slc 2 (fldsD l)), .d (.str t)]] (.d (.bool true)) := by
  refine ⟨Tryd.call10, PCall.enterS Tryd.func10 rfl Tryd.ntmps10 rfl fun hb => ?_⟩
  simp only [go_sem, Tryd.results10]
  refine AWp.rs fun K1 hK1 => ?_
  try simp only [go_sem, decide_true, Bool.true_and]
  intro b1
  first | intro fb1 | have fb1 := True.intro
  try simp only [freshL] at fb1
  refine hK1 _ _ ?_
  try clear hK1 K1
  refine AWp.rs fun K2 hK2 => ?_
  try simp only [go_sem, decide_true, Bool.true_and, fb1]
  refine DW.pcr rfl rfl rfl rfl (messages_c T l t ok) rfl rfl ?_
  try simp only [go_sem, decide_true, Bool.true_and, fb1]
  intro b3
  first | intro fb3 | have fb3 := True.intro
  try simp only [freshL] at fb3
  refine hK2 _ _ ?_
  try clear hK2 K2
  refine AWp.mask [false, true, false, true] rfl ?_
  simp only [go_sem]
  refine AWp.rs fun K3 hK3 => ?_
  try simp only [go_sem, decide_true, Bool.true_and, fb1, fb3]
  refine DW.pcr rfl rfl rfl rfl (LCheck_c T hL l t ok) rfl rfl ?_
  try simp only [go_sem, decide_true, Bool.true_and, fb1, fb3]
  refine hK3 _ _ ?_
  try clear hK3 K3
  refine AWp.rs fun K4 hK4 => ?_
  try simp only [go_sem, decide_true, Bool.true_and, fb1, fb3]
  refine DW.pcr rfl rfl rfl rfl (MessageFault_c T l t ok) rfl rfl ?_
  try simp only [go_sem, decide_true, Bool.true_and, fb1, fb3]
  refine hK4 _ _ ?_
  try clear hK4 K4
  refine AWp.mask [true, true, true, true] rfl ?_
  simp only [go_sem]
  refine AWp.rs fun K5 hK5 => ?_
  try simp only [go_sem, decide_true, Bool.true_and, fb1, fb3]
  refine DW.pcgr rfl rfl rfl rfl rfl (fun hg => sameMsg_c T l t (by have := ok.hn; omega)) (fun hg => by (try simp only [go_sem, decide_true, Bool.true_and, fb1, fb3]) <;> first | exact hg | (exfalso; simp at hg; done) | (simpa using hg) | grind) rfl rfl ?_
  try simp only [go_sem, decide_true, Bool.true_and, fb1, fb3]
  refine hK5 _ _ ?_
  try clear hK5 K5
  refine AWp.mask [false, true] rfl ?_
  simp only [go_sem]
  refine AWp.ret ?_
  try simp only [go_sem, decide_true, Bool.true_and, fb1, fb3]
  try simp [LeA, LeL, LeD]
set_option maxRecDepth 4000 in
set_option maxHeartbeats 1000000 in
theorem letterShows_c (T : Tbl) (hL : LibT T) (l : List (Tx × Tx)) (t : Tx) (ok : MsgOk l t) : PC Tryd.prog T 11 [.agg [.d (.slc 2 (fldsD l)), .d (.str t)]] (.d (.bool true)) := by
  refine ⟨Tryd.call11, PCall.enterS Tryd.func11 rfl Tryd.ntmps11 rfl fun hb => ?_⟩
  simp only [go_sem, Tryd.results11]
  refine AWp.rs fun K1 hK1 => ?_
  try simp only [go_sem, decide_true, Bool.true_and]
  intro b1
  first | intro fb1 | have fb1 := True.intro
  try simp only [freshL] at fb1
  refine hK1 _ _ ?_
  try clear hK1 K1
  refine AWp.rs fun K2 hK2 => ?_
  try simp only [go_sem, decide_true, Bool.true_and, fb1]
  refine DW.pcr rfl rfl rfl rfl (messages_c T l t ok) rfl rfl ?_
  try simp only [go_sem, decide_true, Bool.true_and, fb1]
  refine DW.pcr rfl rfl rfl rfl (LShow_c T hL l t ok) rfl rfl ?_
  try simp only [go_sem, decide_true, Bool.true_and, fb1]
  refine hK2 _ _ ?_
  try clear hK2 K2
  refine AWp.mask [false, true, false, true, true] rfl ?_
  simp only [go_sem]
  refine AWp.rs fun K3 hK3 => ?_
  try simp only [go_sem, decide_true, Bool.true_and, fb1]
  refine DW.pcr rfl rfl rfl rfl (MessageShown_c T l t ok) rfl rfl ?_
  try simp only [go_sem, decide_true, Bool.true_and, fb1]
  refine hK3 _ _ ?_
  try clear hK3 K3
  refine AWp.mask [false, true, true, true, true] rfl ?_
  simp only [go_sem]
  refine AWp.rs fun K4 hK4 => ?_
  try simp only [go_sem, decide_true, Bool.true_and, fb1]
  refine hK4 _ _ ?_
  try clear hK4 K4
  refine AWp.mask [true] rfl ?_
  simp only [go_sem]
  refine AWp.ret ?_
  try simp only [go_sem, decide_true, Bool.true_and, fb1]
  try simp [LeA, LeL, LeD]
end Go.Proofs.YthhfbolhlbgbgaaDoor

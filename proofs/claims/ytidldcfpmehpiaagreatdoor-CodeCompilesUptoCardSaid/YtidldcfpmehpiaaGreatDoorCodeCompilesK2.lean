/- Texts that the law CodeCompiles rests on, packed. -/
import Derived.Test.YtidldcfpmehpiaaGreatDoorGD
import Derived.Test.YtidldcfpmehpiaaGreatDoorCodeCompilesK0
import Derived.Test.YtidldcfpmehpiaaGreatDoorShelfS
import Derived.Test.YtidldcfpmehpiaaGreatDoorCodeCompilesK1
import Derived.Test.YtidldcfpmehpiaaGreatDoorGT
import Derived.Test.YtidldcfpmehpiaaGreatDoorGB
import Derived.Test.YtidldcfpmehpiaaGreatDoorGC
namespace Go.Proofs.YtidldcfpmehpiaaGreatDoor
open Go.RowKit
set_option linter.unusedSimpArgs false
set_option linter.unusedVariables false
open Go.ChangeShapes Go.WideShapes Go.ChangeAt
mutual
def tsz : Tst → Nat
  | .mk _ _ _ n k _ _ l => (n.map fun s => s.length + 1).sum + (k.map fun s => s.length + 1).sum + tszL l + 5
def tszL : List Tst → Nat
  | [] => 0
  | t :: l => tsz t + tszL l
end
theorem tszL_eq (l : List Tst) : tszL l = (l.map tsz).sum := by
  induction l with
  | nil => rfl
  | cons t l ih => rw [tszL, ih]; rfl
mutual
def csz : Cmd → Nat
  | .mk _ x t a b => (x.map fun s => s.length + 1).sum + tsz t + cszL a + cszL b + 5
def cszL : List Cmd → Nat
  | [] => 0
  | t :: l => csz t + cszL l
end
theorem cszL_eq (l : List Cmd) : cszL l = (l.map csz).sum := by
  induction l with
  | nil => rfl
  | cons t l ih => rw [cszL, ih]; rfl
theorem strs_len (l : List Str) : l.length ≤ (l.map fun s => s.length + 1).sum := by
  induction l with
  | nil => simp
  | cons s l ih => simp only [List.map_cons, List.sum_cons, List.length_cons]; omega
theorem tsz_pos (t : Tst) : 5 ≤ tsz t := by cases t; rw [tsz]; omega
theorem csz_pos (t : Cmd) : 5 ≤ csz t := by cases t; rw [csz]; omega
theorem kids_len (l : List Tst) : 5 * l.length ≤ tszL l := by
  induction l with
  | nil => simp [tszL]
  | cons t l ih => have := tsz_pos t; rw [tszL, List.length_cons]; omega
theorem cmds_len (l : List Cmd) : 5 * l.length ≤ cszL l := by
  induction l with
  | nil => simp [cszL]
  | cons t l ih => have := csz_pos t; rw [cszL, List.length_cons]; omega
theorem tsz_mem {x : Tst} {l : List Tst} (h : x ∈ l) : tsz x ≤ tszL l := by
  induction l with
  | nil => simp at h
  | cons t l ih =>
    rw [tszL]
    rcases List.mem_cons.1 h with rfl | h
    · omega
    · have := ih h; omega
theorem csz_mem {x : Cmd} {l : List Cmd} (h : x ∈ l) : csz x ≤ cszL l := by
  induction l with
  | nil => simp at h
  | cons t l ih =>
    rw [cszL]
    rcases List.mem_cons.1 h with rfl | h
    · omega
    · have := ih h; omega
theorem tsz_eq (t : Tst) : tsz t = (t.names.map fun s => s.length + 1).sum + (t.keys.map fun s => s.length + 1).sum + tszL t.kids + 5 := by cases t; rw [tsz]; rfl
theorem csz_eq (t : Cmd) : csz t = (t.texts.map fun s => s.length + 1).sum + tsz t.test + cszL t.thn + cszL t.els + 5 := by cases t; rw [csz]; rfl
theorem Tst.ok_of (t : Tst) (h : tsz t ≤ 1048576) : t.Ok := by
  induction t using Tst.ind with
  | h t ih =>
    rw [tsz_eq] at h
    have h1 := strs_len t.names
    have h2 := strs_len t.keys
    have h3 := kids_len t.kids
    exact ⟨by omega, by omega, by omega, fun x hx => ih x hx (by have := tsz_mem hx; omega)⟩
theorem Cmd.ok_of (t : Cmd) (h : csz t ≤ 1048576) : t.Ok := by
  induction t using Cmd.ind with
  | h t ih ih2 =>
    rw [csz_eq] at h
    have h1 := strs_len t.texts
    have h3 := cmds_len t.thn
    have h4 := cmds_len t.els
    exact ⟨by omega, Tst.ok_of _ (by omega), by omega, by omega, fun x hx => ih x hx (by have := csz_mem hx; omega), fun x hx => ih2 x hx (by have := csz_mem hx; omega)⟩
theorem tT_len (t : Tst) : (tT t).length + 1 ≤ 6 * tsz t := by
  induction t using Tst.ind with
  | h t ih =>
    have hk : (tK t.kids).length ≤ 6 * tszL t.kids := by
      cases hh : t.kids with
      | nil => simp [tK]
      | cons x l => have := ih x (by rw [hh]; simp); rw [tK, tszL]; omega
    have hl : ∀ l f, (∀ x ∈ l, x ∈ t.kids) → (tTL l f).length ≤ 6 * tszL l := fun l => by
      induction l with
      | nil => intro f _; simp [tTL]
      | cons x l il =>
        intro f hm
        have h1 := ih x (hm x (by simp))
        have h2 := il false fun y hy => hm y (by simp [hy])
        rw [tTL, tszL]
        simp only [List.length_cons, List.length_append]
        omega
    have hl := hl t.kids true fun x hx => hx
    have h1 := strs_len t.names
    have h2 := strs_len t.keys
    have h4 := strsT_len t.names
    have h5 := strsT_len t.keys
    rw [tT_eq, tsz_eq]
    repeat' split
    all_goals simp only [List.length_cons, List.length_append, List.length_nil]
    all_goals omega
theorem cmT_len (c : Cmd) : (cmT c).length + 1 ≤ 6 * csz c := by
  induction c using Cmd.ind with
  | h c i1 i2 =>
    have hl : ∀ l, (∀ x ∈ l, (cmT x).length + 1 ≤ 6 * csz x) → (lsT l).length ≤ 6 * cszL l := fun l => by
      induction l with
      | nil => intro _; simp [lsT]
      | cons x l il =>
        intro hm
        have h1 := hm x (by simp)
        have h2 := il fun y hy => hm y (by simp [hy])
        rw [lsT, cszL]
        simp only [List.length_cons, List.length_append]
        omega
    have ha := hl c.thn i1
    have hb := hl c.els i2
    have hel : (elT c.els).length ≤ 6 * cszL c.els + 3 := by
      rcases Nat.eq_zero_or_pos c.els.length with h0 | h0
      · rw [elT_0 c h0]; simp
      · cases he : elsifC c with
        | true =>
          rw [elT_t c he h0]
          have := i2 _ (List.getElem_mem h0)
          have := csz_mem (List.getElem_mem h0)
          simp only [List.length_cons]
          omega
        | false =>
          rw [elT_f c he h0]
          simp only [List.length_cons, List.length_append, List.length_nil]
          omega
    have h1 := strs_len c.texts
    have h4 := strsT_len c.texts
    have h5 := tT_len c.test
    rw [cmT_eq, csz_eq]
    repeat' split
    all_goals simp only [List.length_cons, List.length_append, List.length_nil]
    all_goals omega
theorem lsT_len (l : List Cmd) : (lsT l).length ≤ 6 * cszL l := by
  induction l with
  | nil => simp [lsT]
  | cons x l ih =>
    have := cmT_len x
    rw [lsT, cszL]
    simp only [List.length_cons, List.length_append]
    omega
section
variable {H : Type} {enc : TypeId × Value → H} {W : World}
theorem dec_strs (f : Nat) : Dec enc Tryz.prog W (fun l : List Str => [.slc 1 (l.map strD)]) (fun l => (l.map fun s => s.length + 1).sum + 1) 31 f := by
  cases f with
  | zero => exact Dec.zero
  | succ f => exact Dec.slc (Dec.str Tryz.underlying9) Tryz.underlying31 (by kernel_rfl) (fun _ => rfl) (by decide)
set_option maxRecDepth 100000 in
theorem dec_tst (f : Nat) : Dec enc Tryz.prog W tstD tsz 34 f := by
  induction f with
  | zero => exact Dec.zero
  | succ f ih =>
    have hk : Dec enc Tryz.prog W (fun l : List Tst => [.slc 8 (l.map tstD)]) (fun l => (l.map tsz).sum + 1) 32 f := by
      cases f with
      | zero => exact Dec.zero
      | succ f => exact Dec.slc (ih.le (by omega)) Tryz.underlying32 (by kernel_rfl) (fun _ => rfl) (by decide)
    have hi : Dec enc Tryz.prog W (fun n : Int => [.int .i64 n]) (fun _ => 1) 3 f := Dec.int Tryz.underlying3
    have hb : Dec enc Tryz.prog W (fun n : Bool => [.bool n]) (fun _ => 1) 4 f := Dec.bool Tryz.underlying4
    have hs := dec_strs (enc := enc) (W := W) f
    exact (Dec.struct Tryz.underlying34 (by kernel_rfl) (.cons (k := 1) hi (by kernel_rfl) rfl (.cons (k := 1) hi (by kernel_rfl) rfl (.cons (k := 1) hi (by kernel_rfl) rfl (.cons (k := 1) hs (by kernel_rfl) rfl (.cons (k := 1) hs (by kernel_rfl) rfl (.cons (k := 1) hb (by kernel_rfl) rfl (.cons (k := 1) hi (by kernel_rfl) rfl (.cons (k := 1) hk (by kernel_rfl) rfl .nil))))))))).map
        (fun p => Tst.mk p.1 p.2.1 p.2.2.1 p.2.2.2.1 p.2.2.2.2.1 p.2.2.2.2.2.1 p.2.2.2.2.2.2.1 p.2.2.2.2.2.2.2.1) (fun p => by simp [tstD, kidsD_eq, Tst.kind, Tst.mat, Tst.part, Tst.names, Tst.keys, Tst.over, Tst.limit, Tst.kids]) (fun p => by rw [tsz, tszL_eq]; omega)
set_option maxRecDepth 100000 in
theorem dec_cmd (f : Nat) : Dec enc Tryz.prog W cmdD csz 65 f := by
  induction f with
  | zero => exact Dec.zero
  | succ f ih =>
    have hk : Dec enc Tryz.prog W (fun l : List Cmd => [.slc 12 (l.map cmdD)]) (fun l => (l.map csz).sum + 1) 22 f := by
      cases f with
      | zero => exact Dec.zero
      | succ f => exact Dec.slc (ih.le (by omega)) Tryz.underlying22 (by kernel_rfl) (fun _ => rfl) (by decide)
    have hi : Dec enc Tryz.prog W (fun n : Int => [.int .i64 n]) (fun _ => 1) 3 f := Dec.int Tryz.underlying3
    have hs := dec_strs (enc := enc) (W := W) f
    exact (Dec.struct Tryz.underlying65 (by kernel_rfl) (.cons (k := 1) hi (by kernel_rfl) rfl (.cons (k := 1) hs (by kernel_rfl) rfl (.cons (k := 8) (dec_tst f) (by kernel_rfl) rfl (.cons (k := 1) hk (by kernel_rfl) rfl (.cons (k := 1) hk (by kernel_rfl) rfl .nil)))))).map
        (fun p => Cmd.mk p.1 p.2.1 p.2.2.1 p.2.2.2.1 p.2.2.2.2.1) (fun p => by simp [cmdD, thnD_eq, elsD_eq, Cmd.kind, Cmd.texts, Cmd.test, Cmd.thn, Cmd.els]) (fun p => by rw [csz, cszL_eq, cszL_eq]; omega)
theorem dec_cmds (f : Nat) : Dec enc Tryz.prog W (fun l : List Cmd => [.slc 12 (l.map cmdD)]) cszL 22 f := by
  cases f with
  | zero => exact Dec.zero
  | succ f => exact (Dec.slc (dec_cmd f) Tryz.underlying22 (by kernel_rfl) (fun _ => rfl) (by decide)).map id (fun _ => rfl) (fun l => by show cszL l ≤ _; rw [cszL_eq]; omega)
/-- one argument of one cell -/
theorem cells_one {v : Value} {d : D} {F : Frz} (h : VDs F [d] v.cells.toList) (hv : v.oneCell' = true) : VD F d v := by
  obtain ⟨u, h1, h2⟩ := h.2 0 d rfl
  have : v.cells.toList = [v] := by cases v <;> first | rfl | (simp [Value.oneCell'] at hv)
  rw [this] at h1
  injection h1 with h1
  rw [h1]; exact h2
end
end Go.Proofs.YtidldcfpmehpiaaGreatDoor

namespace Go.Proofs.YtidldcfpmehpiaaGreatDoor
open Go.RowKit
set_option linter.unusedSimpArgs false
set_option linter.unusedVariables false
/-- the library's word on long texts is some number -/
def Lib0 (w : World) : Prop := 3 < w.heap.size ∧ ∃ m : Int, w.cell? ⟨3, 0, none⟩ = some (.int .i64 m)
theorem Lib0.below {w w' : World} (h : Lib0 w) (hb : Below w.heap.size w w') : Lib0 w' := by
  obtain ⟨h1, m, h2⟩ := h
  exact ⟨Nat.lt_of_lt_of_le h1 hb.size, m, (hb.cell (p := ⟨3, 0, none⟩) h1).trans h2⟩
theorem Lib0.to {w w' : World} {B : Nat} (h : Lib0 w) (hb : Below B w w') (hB : w.heap.size ≤ B) : Lib0 w' := h.below (hb.mono hB)
theorem Lib0.drewN {w : World} (h : Lib0 w) (d : Nat) : Lib0 (w.drewN d) := h
theorem Lib0.open_ {w : World} (h : w.ShapedOpen Tryz.prog) : Lib0 w := by
  obtain ⟨m, hm⟩ : ∃ m, w.cell? ⟨3, 0, none⟩ = some (.int .i64 m) := Go.Proofs.cell_of_shapedOpen_int (zero := #[.int .i64 0]) (t := 3) h (of_decide_eq_true (by kernel_rfl)) (by kernel_rfl) rfl (by kernel_rfl) (by kernel_rfl) Tryz.underlying3
  exact ⟨World.block_lt_of_cell? w ⟨3, 0, none⟩ hm, m, hm⟩
end Go.Proofs.YtidldcfpmehpiaaGreatDoor

namespace Go.Proofs.YtidldcfpmehpiaaGreatDoor
open Go.RowKit
set_option linter.unusedSimpArgs false
set_option linter.unusedVariables false
theorem RF.of_row {w : World} {g : Nat} {l : List ByteArray} {e : TypeId} {fr : Nat × Nat} (h : w.heap[g]? = some (.cells (l.map Value.string).toArray e fr)) (n : Nat) (hn : l.length = n) (hm : n ≤ maxLen) :
    RF strF w (· < w.heap.size) (.slice (some ⟨g, 0, none⟩) n n) l := by
  have e' : l.flatMap strF.enc = l.map Value.string := by
    clear h hn
    induction l with
    | nil => rfl
    | cons z r ih => simp only [List.map_cons, List.flatMap_cons, ih]; rfl
  refine ⟨some ⟨g, 0, none⟩, n, by simp [hn], by simp [hn], hm, by simp, ?_, fun _ => ⟨g, 0, rfl, (Array.getElem?_eq_some_iff.1 h).1, fun j u hu => ?_⟩⟩
  · rw [e']
    simp [strF]
  · rw [e'] at hu
    rw [Nat.zero_add, cell_of_row _ _ _ _ e fr h]
    simpa using hu
theorem Split_any (s : ByteArray) (w : World) (hs : s.size < 4294967281) (h0 : Lib0 w) :
    Calls Tryz.prog 204 #[.string s, .string dotSep] w fun e w' => ∃ v', e = .returned v' ∧ RF strF w' (· < w'.heap.size) v' (splitL s) ∧ Below w.heap.size w w' := by
  obtain ⟨_, m, hm⟩ := h0
  refine (Tryz.strings_Split s dotSep m w hs hm (by decide)).mono ?_
  rintro e w' ⟨rfl, rfl⟩
  refine ⟨_, rfl, RF.of_row (fr := (0, 0)) (heap_alloc_new w _) _ (splitL_len s) ?_, (Below.refl _ _).alloc (Nat.le_refl _) _⟩
  have := countB_small s
  unfold maxLen
  omega
end Go.Proofs.YtidldcfpmehpiaaGreatDoor

namespace Go.Proofs.YtidldcfpmehpiaaGreatDoor
open Go.RowKit
set_option linter.unusedSimpArgs false
set_option linter.unusedVariables false
set_option maxRecDepth 20000 in
theorem atom_any (c : UInt8) (w : World) : Calls Tryz.prog 205 #[.int .u8 c.toNat] w fun e w' => e = .returned (.bool (atomB c)) ∧ w = w' := by
  have hu : (c.toNat : Int) < 256 := by have := c.toNat_lt; omega
  have hcu : ((c.toNat : Int).toNat.toUInt8) = c := by simp
  have HI := Lib.hid (fun wx => by have h := Tryz.strings_IndexByte (mk marksL) (c.toNat : Int) wx; rw [hcu] at h; exact h)
  clear hcu
  have hc : (c.toNat : Int) < 48 ∨ (48 ≤ (c.toNat : Int) ∧ (c.toNat : Int) ≤ 57) ∨ (58 ≤ (c.toNat : Int) ∧ (c.toNat : Int) < 65) ∨ (65 ≤ (c.toNat : Int) ∧ (c.toNat : Int) ≤ 90) ∨ (91 ≤ (c.toNat : Int) ∧ (c.toNat : Int) ≤ 96) ∨ (97 ≤ (c.toNat : Int) ∧ (c.toNat : Int) ≤ 122) ∨ 122 < (c.toNat : Int) := by omega
  rcases hc with h | ⟨h, h'⟩ | ⟨h, h'⟩ | ⟨h, h'⟩ | ⟨h, h'⟩ | ⟨h, h'⟩ | h
  all_goals first | have HB := Lib.hid (alnum_yes (c := c) (by omega)) | have HB := Lib.hid (alnum_no (c := c) (by omega))
  all_goals
    go_enter Tryz.func205, Tryz.ntmps205
    go_wp2_with (go_at_call 173; refine (HI.out _).mono ?_; rintro e w' ⟨rfl, rfl⟩)
    go_ret
    refine ⟨?_, rfl⟩
    rw [HB.out]
    first
    | rfl
    | (have e1 : decide ((c.toNat : Int) ≤ 57) = false := by (rw [decide_eq_false_iff_not]; omega)
       first
       | (simp only [e1, Bool.false_or]; rfl)
       | (have e2 : decide ((c.toNat : Int) ≤ 90) = false := by (rw [decide_eq_false_iff_not]; omega)
          first
          | (simp only [e1, e2, Bool.false_or, Bool.or_false]; rfl)
          | (have e3 : decide ((c.toNat : Int) ≤ 122) = false := by (rw [decide_eq_false_iff_not]; omega)
             simp only [e1, e2, e3, Bool.false_or, Bool.or_false]; rfl)))
theorem getD_get {l : List UInt8} {k : Nat} (h : k < l.length) : l.getD k 0 = l[k] := by simp [List.getD, List.getElem?_eq_getElem h]
theorem marks_cell (w : World) (k : Nat) (hk : k < 19) : (w.alloc (.cells #[.int .u8 33, .int .u8 35, .int .u8 36, .int .u8 37, .int .u8 38, .int .u8 39, .int .u8 42, .int .u8 43, .int .u8 45, .int .u8 47, .int .u8 61, .int .u8 63, .int .u8 94, .int .u8 95, .int .u8 123, .int .u8 124, .int .u8 125, .int .u8 126, .int .u8 96] 5)).cell? ⟨w.heap.size, k, none⟩ = some (.int .u8 ((marksL.getD k 0).toNat : Int)) := by
  rw [cell_of_row _ _ _ _ 5 (0, 0) (heap_alloc_new w _)]
  have : ∀ k, k < 19 → (#[Value.int .u8 33, .int .u8 35, .int .u8 36, .int .u8 37, .int .u8 38, .int .u8 39, .int .u8 42, .int .u8 43, .int .u8 45, .int .u8 47, .int .u8 61, .int .u8 63, .int .u8 94, .int .u8 95, .int .u8 123, .int .u8 124, .int .u8 125, .int .u8 126, .int .u8 96] : Array Value)[k]? = some (.int .u8 ((marksL.getD k 0).toNat : Int)) := by
    intro k hk
    obtain rfl | rfl | rfl | rfl | rfl | rfl | rfl | rfl | rfl | rfl | rfl | rfl | rfl | rfl | rfl | rfl | rfl | rfl | rfl : k = 0 ∨ k = 1 ∨ k = 2 ∨ k = 3 ∨ k = 4 ∨ k = 5 ∨ k = 6 ∨ k = 7 ∨ k = 8 ∨ k = 9 ∨ k = 10 ∨ k = 11 ∨ k = 12 ∨ k = 13 ∨ k = 14 ∨ k = 15 ∨ k = 16 ∨ k = 17 ∨ k = 18 := by omega
    all_goals rfl
  exact this k hk
set_option maxRecDepth 20000 in
theorem atomByte_any (c : UInt8) (w : World) : Calls Tryz.prog 223 #[.int .u8 c.toNat] w fun e w' => e = .returned (.bool (atomB c)) ∧ Below w.heap.size w w' := by
  have hu : (c.toNat : Int) < 256 := by have := c.toNat_lt; omega
  by_cases ha : (97 ≤ (c.toNat : Int) ∧ (c.toNat : Int) ≤ 122) ∨ (65 ≤ (c.toNat : Int) ∧ (c.toNat : Int) ≤ 90) ∨ (48 ≤ (c.toNat : Int) ∧ (c.toNat : Int) ≤ 57)
  · have HB := Lib.hid (alnum_yes (c := c) ha)
    rcases ha with ⟨h, h'⟩ | ⟨h, h'⟩ | ⟨h, h'⟩
    all_goals
      go_enter Tryz.func223, Tryz.ntmps223
      go_wp2_with (go_at_call 98; first | (refine (In_yes _ _ _ _ ?_ ?_).mono ?_; omega; omega; rintro e w' ⟨rfl, rfl⟩) | (refine (In_no _ _ _ _ ?_).mono ?_; omega; rintro e w' ⟨rfl, rfl⟩))
      go_ret
      exact ⟨by rw [HB.out]; rfl, Below.refl _ _⟩
  · have HB := Lib.hid (alnum_no (c := c) ha)
    have HN1 : (c.toNat : Int) < 97 ∨ 122 < (c.toNat : Int) := by omega
    have HN2 : (c.toNat : Int) < 65 ∨ 90 < (c.toNat : Int) := by omega
    have HN3 : (c.toNat : Int) < 48 ∨ 57 < (c.toNat : Int) := by omega
    have H1 := Lib.hid HN1
    have H2 := Lib.hid HN2
    have H3 := Lib.hid HN3
    clear HN1 HN2 HN3 ha
    have HM := Lib.hid (marks_cell w)
    go_enter Tryz.func223, Tryz.ntmps223
    go_wp2_with (go_at_call 98; refine (In_no _ _ _ _ ?_).mono ?_; (first | exact H1.out | exact H2.out | exact H3.out); rintro e w' ⟨rfl, rfl⟩)
    go_loop [4] (fun i => ∃ k : Nat, k ≤ 19 ∧ i = .int .i64 k ∧ ∀ j, j < k → marksL.getD j 0 ≠ c) (fun i => 19 - (intOf i).toNat)
    case atStart => exact ⟨0, by omega, rfl, fun j hj => by omega⟩
    case round =>
      obtain ⟨k, hk, rfl, hn⟩ := hrel
      have HN := Lib.hid hn
      clear hn
      by_cases hlt : k < 19
      · have hc := HM.out k hlt
        obtain ⟨d, hd⟩ : ∃ d, d = marksL.getD k 0 := ⟨_, rfl⟩
        rw [← hd] at hc
        have HD := Lib.hid hd
        clear hd
        have i0 : (0 : Int) ≤ k := by omega
        have i1 : (k : Int) < 19 := by omega
        by_cases he : d = c
        · subst he
          have HF : Hid (decide (0 ≤ Lib.indexByte marksL d) = true) := Lib.hid (by
            rw [decide_eq_true_eq, indexByte_mem, HD.out]
            have hk' : k < marksL.length := hlt
            rw [getD_get hk']
            exact List.getElem_mem hk')
          go_wp2_with fail
          go_ret
          exact ⟨by rw [HB.out, HF.out]; rfl, (Below.refl _ _).alloc (Nat.le_refl _) _⟩
        · have HE := Lib.hid he
          have i2 : ((d.toNat : Int) == (c.toNat : Int)) = false := beq_false_of_ne fun h => he (UInt8.toNat_inj.1 (by omega))
          clear he
          go_wp2_with fail
          go_round
          case rel =>
            refine ⟨k + 1, by omega, by go_num, fun j hj => ?_⟩
            by_cases e : j = k
            · subst e
              rw [← HD.out]
              exact HE.out
            · exact HN.out j (by omega)
          case measure => simp [intOf]; omega
      · obtain rfl : k = 19 := by omega
        have HF : Hid (decide (0 ≤ Lib.indexByte marksL c) = false) := Lib.hid (by
          rw [decide_eq_false_iff_not, indexByte_mem]
          intro hm
          obtain ⟨j, hj, e⟩ := List.mem_iff_getElem.1 hm
          refine HN.out j hj ?_
          rw [getD_get hj, e])
        go_wp2_with fail
        go_ret
        exact ⟨by rw [HB.out, HF.out]; rfl, (Below.refl _ _).alloc (Nat.le_refl _) _⟩
end Go.Proofs.YtidldcfpmehpiaaGreatDoor

namespace Go.Proofs.YtidldcfpmehpiaaGreatDoor
open Go.RowKit
set_option linter.unusedSimpArgs false
set_option linter.unusedVariables false
theorem ne46 {l : UInt8} (h : l ≠ 46) : (l.toNat : Int) ≠ 46 := fun e => h (UInt8.toNat_inj.1 (by have : (46 : UInt8).toNat = 46 := rfl; omega))
set_option maxRecDepth 20000 in
theorem dotted_any (s : ByteArray) (w : World) (hs : s.size ≤ 1048576) (h0 : Lib0 w) : Calls Tryz.prog 121 #[.string s] w fun e w' => e = .returned (.bool (dottedB s)) ∧ Below w.heap.size w w' := by
  have HS := Lib.hid (splitL_all s)
  have HZ := Lib.hid (fun x (hx : x ∈ splitL s) => splitB_small dotSep _ s x hx)
  have HC := Lib.hid (fun wx h => Split_any s wx (by omega) h)
  obtain ⟨L, hL⟩ : ∃ L, L = splitL s := ⟨_, rfl⟩
  rw [← hL] at HS HC HZ
  have HL := Lib.hid hL
  have H0 := Lib.hid h0
  clear hL h0
  go_enter Tryz.func121, Tryz.ntmps121
  go_wp2_with fail
  refine (HC.out _ H0.out).mono ?_
  rintro e w1 ⟨v, rfl, hr, hb⟩
  obtain ⟨A, c, rfl, hr⟩ := hr.ex
  have hm := hr.bound
  unfold maxLen at hm
  have H := Lib.hid hr
  have HB := Lib.hid hb
  clear hr hb
  go_wp2_with fail
  go_loop [9] (fun i => ∃ k : Nat, k ≤ L.length ∧ i = .int .i64 k ∧ ∀ (j : Nat) x, j < k → L[j]? = some x → pieceOk (bs x) = true) (fun i => L.length - (intOf i).toNat)
  case atStart => exact ⟨0, by omega, rfl, fun j x hj => by omega⟩
  case round =>
    obtain ⟨k, hk, rfl, hg⟩ := hrel
    have HG := Lib.hid hg
    clear hg
    by_cases hlt : k < L.length
    · obtain ⟨b, off, x, rfl, _, hx, hc⟩ := str_cell H.out hlt
      have hxs := HZ.out x (List.mem_of_getElem? hx)
      have HX := Lib.hid hx
      have HBAD : Hid (pieceOk (bs x) = false → dottedB s = false) := Lib.hid (fun h => by
        rw [← HS.out, List.all_eq_false]
        exact ⟨x, List.mem_of_getElem? HX.out, by simp [h]⟩)
      clear hx
      by_cases hz : x.size = 0
      · have HV : Hid (dottedB s = false) := Lib.hid (HBAD.out (by
          have : bs x = [] := List.eq_nil_of_length_eq_zero (by rw [bs_len]; exact hz)
          rw [this]; rfl))
        have hx0 : x = ByteArray.empty := by
          apply bs_inj
          have : bs x = [] := List.eq_nil_of_length_eq_zero (by rw [bs_len]; exact hz)
          rw [this]; rfl
        subst hx0
        clear hz hxs
        go_wp2_with fail
        go_ret
        exact ⟨by rw [HV.out]; rfl, HB.out⟩
      · have i1 : x.toList.isEmpty = false := by
          rw [ByteArray.toList_eq]
          cases he : x.data.toList with
          | nil => exfalso; apply hz; rw [← bs_len]; unfold bs; rw [he]; rfl
          | cons a b => rfl
        have HNE : Hid ((bs x).isEmpty = false) := Lib.hid (by rw [ByteArray.toList_eq] at i1; exact i1)
        have i2 : ¬ x.toList = [] := by intro h; rw [h] at i1; cases i1
        clear hz
        go_wp2_with fail
        go_loop [17] (fun i => ∃ q : Nat, q ≤ x.size ∧ i = .int .i64 q ∧ ∀ (j : Nat) (hj : j < x.size), j < q → atomB x[j] = true) (fun i => x.size - (intOf i).toNat)
        case atStart => exact ⟨0, by omega, rfl, fun j x hj => by omega⟩
        case round =>
          obtain ⟨q, hq, rfl, hat⟩ := hrel
          have HA := Lib.hid hat
          clear hat
          by_cases hlq : q < x.size
          · have HAT := Lib.hid (fun wx => atom_any x[q] wx)
            cases ha : atomB x[q]
            · rw [ha] at HAT
              have HV : Hid (dottedB s = false) := Lib.hid (HBAD.out (by
                unfold pieceOk
                rw [HNE.out]
                have : (bs x).all atomB = false := by
                  rw [List.all_eq_false]
                  exact ⟨x[q], List.mem_of_getElem? (bs_get x q hlq), by simp [ha]⟩
                rw [this]; rfl))
              clear ha
              go_wp2_with (go_at_call 205; refine (HAT.out _).mono ?_; rintro e w' ⟨rfl, rfl⟩)
              go_ret
              exact ⟨by rw [HV.out]; rfl, HB.out⟩
            · rw [ha] at HAT
              have HH := Lib.hid ha
              clear ha
              go_wp2_with (go_at_call 205; refine (HAT.out _).mono ?_; rintro e w' ⟨rfl, rfl⟩)
              go_round
              case rel =>
                refine ⟨q + 1, by omega, by go_num, fun j hj hjq => ?_⟩
                by_cases e : j = q
                · subst e; exact HH.out
                · exact HA.out j hj (by omega)
              case measure => simp [intOf]; omega
          · obtain rfl : q = x.size := by omega
            have HP : Hid (pieceOk (bs x) = true) := Lib.hid (by
              unfold pieceOk
              rw [HNE.out]
              have : (bs x).all atomB = true := by
                rw [List.all_eq_true]
                intro b hb
                obtain ⟨j, hj, e⟩ := List.mem_iff_getElem.1 hb
                have hj' : j < x.size := by rw [← bs_len]; exact hj
                have := HA.out j hj' hj'
                rw [← e]
                have e2 := bs_get x j hj'
                rw [List.getElem?_eq_getElem hj] at e2
                injection e2 with e2
              rw [this]; rfl)
            go_wp2_with fail
            go_round
            case rel =>
              refine ⟨k + 1, by omega, by go_num, fun j y hj hy => ?_⟩
              by_cases e : j = k
              · subst e
                rw [HX.out] at hy
                injection hy with hy
                subst hy
                exact HP.out
              · exact HG.out j y (by omega) hy
            case measure => simp [intOf]; omega
    · obtain rfl : k = L.length := by omega
      have HV : Hid (dottedB s = true) := Lib.hid (by
        rw [← HS.out, List.all_eq_true]
        intro x hx
        obtain ⟨j, hj, e⟩ := List.mem_iff_getElem.1 hx
        exact HG.out j x hj (by rw [List.getElem?_eq_getElem hj, e]))
      go_wp2_with fail
      go_ret
      exact ⟨by rw [HV.out]; rfl, HB.out⟩
theorem dotGo_at (s : ByteArray) (d : Bool) (k : Nat) (h : k < s.size) : dotGo d ((bs s).drop k) = if s[k] = 46 then !d && dotGo true ((bs s).drop (k + 1)) else atomB s[k] && dotGo false ((bs s).drop (k + 1)) := by
  have hk : k < (bs s).length := by rw [bs_len]; exact h
  have e := bs_get s k h
  rw [List.getElem?_eq_getElem hk] at e
  injection e with e
  rw [List.drop_eq_getElem_cons hk, e]
  rfl
set_option maxRecDepth 20000 in
theorem dottedMay_any (s : ByteArray) (w : World) (hs : s.size ≤ maxLen) : Calls Tryz.prog 134 #[.string s] w fun e w' => e = .returned (.bool (dottedB s)) ∧ Below w.heap.size w w' := by
  unfold maxLen at hs
  have hbl := Lib.hid (bs_len s)
  go_enter Tryz.func134, Tryz.ntmps134
  go_wp2_with fail
  go_loopw [3, 4] (fun v i wr => ∃ (k : Nat) (l : UInt8), k ≤ s.size ∧ i = .int .i64 k ∧ v = .int .u8 l.toNat ∧ dottedB s = dotGo (decide (l = 46)) ((bs s).drop k) ∧ Below w.heap.size w wr) (fun _ i _ => s.size - (intOf i).toNat)
  case atStart => exact ⟨0, 46, by omega, rfl, rfl, by rfl, Below.refl _ _⟩
  case round =>
    obtain ⟨k, l, hk, rfl, rfl, hd, hb⟩ := hrel
    have HD := Lib.hid hd
    have HB := Lib.hid hb
    clear hd hb
    have hl := l.toNat_lt
    by_cases hlt : k < s.size
    · have HS := Lib.hid (dotGo_at s (decide (l = 46)) k hlt)
      by_cases he : s[k] = 46
      · have i1 : ((s[k].toNat : Int) == 46) = true := by rw [he]; rfl
        by_cases hl46 : l = 46
        · subst hl46
          have HV : Hid (dottedB s = false) := Lib.hid (by rw [HD.out, HS.out, if_pos he]; rfl)
          clear he
          go_wp2_with fail
          go_ret
          exact ⟨by rw [HV.out]; rfl, HB.out⟩
        · have HV : Hid (dottedB s = dotGo (decide (s[k] = 46)) ((bs s).drop (k + 1))) := Lib.hid (by rw [HD.out, HS.out, if_pos he, he]; simp [hl46])
          have i2 : ((l.toNat : Int) == 46) = false := beq_false_of_ne (ne46 hl46)
          have i3 : ((s[k].toNat : Int) != 46) = false := by rw [he]; rfl
          have i4 : (s[k].toNat : Int) = 46 := by rw [he]; rfl
          clear he hl46
          go_wp2_with fail
          go_roundw
          case rel => exact ⟨k + 1, s[k], by omega, by go_num, by first | rfl | rw [i4], HV.out, HB.out⟩
          case measure => simp [intOf]; omega
      · have i1 : ((s[k].toNat : Int) == 46) = false := beq_false_of_ne (ne46 he)
        have i3 : ((s[k].toNat : Int) != 46) = true := by simp only [bne, i1]; rfl
        have i4 : ¬ (s[k].toNat : Int) = 46 := by simpa using i1
        have HAT := Lib.hid (fun wx => atomByte_any s[k] wx)
        cases ha : atomB s[k]
        · rw [ha] at HAT
          have HV : Hid (dottedB s = false) := Lib.hid (by rw [HD.out, HS.out, if_neg he, ha]; rfl)
          clear he ha
          go_wp2_with (go_at_call 223; refine (HAT.out _).mono ?_; rintro e w1 ⟨rfl, hb1⟩)
          go_ret
          exact ⟨by rw [HV.out]; rfl, HB.out.trans (hb1.mono HB.out.size)⟩
        · rw [ha] at HAT
          have HV : Hid (dottedB s = dotGo (decide (s[k] = 46)) ((bs s).drop (k + 1))) := Lib.hid (by rw [HD.out, HS.out, if_neg he, ha]; simp [he])
          clear he ha
          go_wp2_with (go_at_call 223; refine (HAT.out _).mono ?_; rintro e w1 ⟨rfl, hb1⟩)
          go_roundw
          case rel => exact ⟨k + 1, s[k], by omega, by go_num, rfl, HV.out, HB.out.trans (hb1.mono HB.out.size)⟩
          case measure => simp [intOf]; omega
    · obtain rfl : k = s.size := by omega
      have HV : Hid (dottedB s = !decide (l = 46)) := Lib.hid (by rw [HD.out, List.drop_eq_nil_of_le (by rw [hbl.out]; omega)]; rfl)
      by_cases hl46 : l = 46
      · subst hl46
        go_wp2_with fail
        go_ret
        exact ⟨by rw [HV.out]; rfl, HB.out⟩
      · have i2 : ((l.toNat : Int) != 46) = true := by
          have : ((l.toNat : Int) == 46) = false := beq_false_of_ne (ne46 hl46)
          simp only [bne, this]; rfl
        have HW : Hid (dottedB s = true) := Lib.hid (by rw [HV.out]; simp [hl46])
        clear hl46
        go_wp2_with fail
        go_ret
        exact ⟨by rw [HW.out]; rfl, HB.out⟩
end Go.Proofs.YtidldcfpmehpiaaGreatDoor

namespace Go.Proofs.YtidldcfpmehpiaaGreatDoor
open Go.RowKit
set_option linter.unusedSimpArgs false
set_option linter.unusedVariables false
structure Adr where
  l : ByteArray
  d : ByteArray
def Adr.val (a : Adr) : Value := .agg #[.string a.l, .string a.d]
def addrE (a : Adr) : Int := if dottedB a.l = false ∨ dottedB a.d = false then 3 else if 99 < a.l.size + a.d.size then 1 else 0
structure AdrOk (a : Adr) : Prop where
  hl : a.l.size ≤ 1048576
  hd : a.d.size ≤ 1048576
theorem addrE_l {a : Adr} (h : dottedB a.l = false) : addrE a = 3 := if_pos (.inl h)
theorem addrE_d {a : Adr} (h : dottedB a.d = false) : addrE a = 3 := if_pos (.inr h)
theorem addrE_big {a : Adr} (h1 : dottedB a.l = true) (h2 : dottedB a.d = true) (h : 99 < a.l.size + a.d.size) : addrE a = 1 := by unfold addrE; rw [if_neg (by rw [h1, h2]; decide), if_pos h]
theorem addrE_ok {a : Adr} (h1 : dottedB a.l = true) (h2 : dottedB a.d = true) (h : ¬ 99 < a.l.size + a.d.size) : addrE a = 0 := by unfold addrE; rw [if_neg (by rw [h1, h2]; decide), if_neg h]
set_option maxRecDepth 20000 in
theorem whoCheck_any (a : Adr) (w : World) (hz : a.l.size ≤ 1048576 ∧ a.d.size ≤ 1048576) (h0 : Lib0 w) : Calls Tryz.prog 68 #[a.val] w fun e w' => e = .returned (.int .i64 (addrE a)) ∧ Below w.heap.size w w' := by
  have m1 := hz.1
  have m2 := hz.2
  clear hz
  have H0 := Lib.hid h0
  clear h0
  have tok : True := trivial
  cases h1 : dottedB a.l
  · have HF := Lib.hid (addrE_l h1)
    have H1 := Lib.hid h1
    clear h1
    obtain ⟨l, d⟩ := a
    unfold Adr.val
    dsimp only at *
    go_enter Tryz.func68, Tryz.ntmps68
    go_wp2_with (first | (go_at_call 121; clear tok; refine (dotted_any l _ ?_ ?_).mono ?_; omega; exact Lib0.below H0.out (Below.alloc (Below.refl _ _) (Nat.le_refl _) _); rintro e w1 ⟨rfl, hb1⟩; rw [H1.out]; obtain ⟨k1a, k1b, k1c⟩ := own_at hb1 (b := w.heap.size) (by first | omega | (simp; done) | (simp; omega)); have z2 := hb1.size; (try simp only [World.size_alloc, World.size_setCell] at z2)))
    go_ret
    refine ⟨by rw [HF.out]; rfl, ?_⟩
    (repeat (first | with_reducible exact hb1 | with_reducible refine Below.trans ?_ (Below.mono hb1 ?_) | with_reducible exact Below.refl _ _ | with_reducible refine Below.setCell ?_ ?_ _ | with_reducible refine Below.alloc ?_ ?_ _ | with_reducible refine Below.drew ?_ | with_reducible refine below_drewN ?_ _))
    all_goals (first | omega | (simp; done) | (simp; omega) | (dsimp only [World.drew] at *; omega))

  cases h2 : dottedB a.d
  · have HF := Lib.hid (addrE_d h2)
    have H1 := Lib.hid h1
    have H2 := Lib.hid h2
    clear h1 h2
    obtain ⟨l, d⟩ := a
    unfold Adr.val
    dsimp only at *
    go_enter Tryz.func68, Tryz.ntmps68
    go_wp2_with (first | (go_at_call 121; clear tok; refine (dotted_any l _ ?_ ?_).mono ?_; omega; exact Lib0.below H0.out (Below.alloc (Below.refl _ _) (Nat.le_refl _) _); rintro e w1 ⟨rfl, hb1⟩; rw [H1.out]; obtain ⟨k3a, k3b, k3c⟩ := own_at hb1 (b := w.heap.size) (by first | omega | (simp; done) | (simp; omega)); have z4 := hb1.size; (try simp only [World.size_alloc, World.size_setCell] at z4)) | (go_at_call 121; refine (dotted_any d _ ?_ ?_).mono ?_; omega; exact Lib0.below (Lib0.below H0.out (Below.alloc (Below.refl _ _) (Nat.le_refl _) _)) hb1; rintro e w2 ⟨rfl, hb2⟩; rw [H2.out]; obtain ⟨k5a, k5b, k5c⟩ := own_at hb2 (b := w.heap.size) (by first | omega | (simp; done) | (simp; omega)); have z6 := hb2.size; (try simp only [World.size_alloc, World.size_setCell] at z6)))
    go_ret
    refine ⟨by rw [HF.out]; rfl, ?_⟩
    (repeat (first | with_reducible exact hb2 | with_reducible refine Below.trans ?_ (Below.mono hb2 ?_) | with_reducible exact hb1 | with_reducible refine Below.trans ?_ (Below.mono hb1 ?_) | with_reducible exact Below.refl _ _ | with_reducible refine Below.setCell ?_ ?_ _ | with_reducible refine Below.alloc ?_ ?_ _ | with_reducible refine Below.drew ?_ | with_reducible refine below_drewN ?_ _))
    all_goals (first | omega | (simp; done) | (simp; omega) | (dsimp only [World.drew] at *; omega))

  by_cases h3 : 99 < a.l.size + a.d.size
  · have HF := Lib.hid (addrE_big h1 h2 h3)
    have H1 := Lib.hid h1
    have H2 := Lib.hid h2
    clear h1 h2
    obtain ⟨l, d⟩ := a
    unfold Adr.val
    dsimp only at *
    have i1 : (100 : Int) < (l.size : Int) + 1 + d.size := by omega
    go_enter Tryz.func68, Tryz.ntmps68
    go_wp2_with (first | (go_at_call 121; clear tok; refine (dotted_any l _ ?_ ?_).mono ?_; omega; exact Lib0.below H0.out (Below.alloc (Below.refl _ _) (Nat.le_refl _) _); rintro e w1 ⟨rfl, hb1⟩; rw [H1.out]; obtain ⟨k7a, k7b, k7c⟩ := own_at hb1 (b := w.heap.size) (by first | omega | (simp; done) | (simp; omega)); have z8 := hb1.size; (try simp only [World.size_alloc, World.size_setCell] at z8)) | (go_at_call 121; refine (dotted_any d _ ?_ ?_).mono ?_; omega; exact Lib0.below (Lib0.below H0.out (Below.alloc (Below.refl _ _) (Nat.le_refl _) _)) hb1; rintro e w2 ⟨rfl, hb2⟩; rw [H2.out]; obtain ⟨k9a, k9b, k9c⟩ := own_at hb2 (b := w.heap.size) (by first | omega | (simp; done) | (simp; omega)); have z10 := hb2.size; (try simp only [World.size_alloc, World.size_setCell] at z10)))
    go_ret
    refine ⟨by rw [HF.out]; rfl, ?_⟩
    (repeat (first | with_reducible exact hb2 | with_reducible refine Below.trans ?_ (Below.mono hb2 ?_) | with_reducible exact hb1 | with_reducible refine Below.trans ?_ (Below.mono hb1 ?_) | with_reducible exact Below.refl _ _ | with_reducible refine Below.setCell ?_ ?_ _ | with_reducible refine Below.alloc ?_ ?_ _ | with_reducible refine Below.drew ?_ | with_reducible refine below_drewN ?_ _))
    all_goals (first | omega | (simp; done) | (simp; omega) | (dsimp only [World.drew] at *; omega))

  · have HF := Lib.hid (addrE_ok h1 h2 h3)
    have H1 := Lib.hid h1
    have H2 := Lib.hid h2
    clear h1 h2
    obtain ⟨l, d⟩ := a
    unfold Adr.val
    dsimp only at *
    have i1 : ¬ ((100 : Int) < (l.size : Int) + 1 + d.size) := by omega
    clear h3
    go_enter Tryz.func68, Tryz.ntmps68
    go_wp2_with (first | (go_at_call 121; clear tok; refine (dotted_any l _ ?_ ?_).mono ?_; omega; exact Lib0.below H0.out (Below.alloc (Below.refl _ _) (Nat.le_refl _) _); rintro e w1 ⟨rfl, hb1⟩; rw [H1.out]; obtain ⟨k11a, k11b, k11c⟩ := own_at hb1 (b := w.heap.size) (by first | omega | (simp; done) | (simp; omega)); have z12 := hb1.size; (try simp only [World.size_alloc, World.size_setCell] at z12)) | (go_at_call 121; refine (dotted_any d _ ?_ ?_).mono ?_; omega; exact Lib0.below (Lib0.below H0.out (Below.alloc (Below.refl _ _) (Nat.le_refl _) _)) hb1; rintro e w2 ⟨rfl, hb2⟩; rw [H2.out]; obtain ⟨k13a, k13b, k13c⟩ := own_at hb2 (b := w.heap.size) (by first | omega | (simp; done) | (simp; omega)); have z14 := hb2.size; (try simp only [World.size_alloc, World.size_setCell] at z14)))
    go_ret
    refine ⟨by rw [HF.out]; rfl, ?_⟩
    (repeat (first | with_reducible exact hb2 | with_reducible refine Below.trans ?_ (Below.mono hb2 ?_) | with_reducible exact hb1 | with_reducible refine Below.trans ?_ (Below.mono hb1 ?_) | with_reducible exact Below.refl _ _ | with_reducible refine Below.setCell ?_ ?_ _ | with_reducible refine Below.alloc ?_ ?_ _ | with_reducible refine Below.drew ?_ | with_reducible refine below_drewN ?_ _))
    all_goals (first | omega | (simp; done) | (simp; omega) | (dsimp only [World.drew] at *; omega))

set_option maxRecDepth 20000 in
theorem addrFault_big (a : Adr) (w : World) (hz : a.l.size ≤ 4294967296 ∧ a.d.size ≤ 4294967296) : Calls Tryz.prog 74 #[a.val] w fun e w' => e = .returned (.int .i64 (addrE a)) ∧ Below w.heap.size w w' := by
  have m1 := hz.1
  have m2 := hz.2
  clear hz
  have tok : True := trivial
  cases h1 : dottedB a.l
  · have HF := Lib.hid (addrE_l h1)
    have H1 := Lib.hid h1
    clear h1
    obtain ⟨l, d⟩ := a
    unfold Adr.val
    dsimp only at *
    go_enter Tryz.func74, Tryz.ntmps74
    go_wp2_with (first | (go_at_call 134; clear tok; refine (dottedMay_any l _ ?_).mono ?_; (unfold maxLen; omega); rintro e w1 ⟨rfl, hb1⟩; rw [H1.out]; obtain ⟨k15a, k15b, k15c⟩ := own_at hb1 (b := w.heap.size) (by first | omega | (simp; done) | (simp; omega)); have z16 := hb1.size; (try simp only [World.size_alloc, World.size_setCell] at z16)))
    go_ret
    refine ⟨by rw [HF.out]; rfl, ?_⟩
    (repeat (first | with_reducible exact hb1 | with_reducible refine Below.trans ?_ (Below.mono hb1 ?_) | with_reducible exact Below.refl _ _ | with_reducible refine Below.setCell ?_ ?_ _ | with_reducible refine Below.alloc ?_ ?_ _ | with_reducible refine Below.drew ?_ | with_reducible refine below_drewN ?_ _))
    all_goals (first | omega | (simp; done) | (simp; omega) | (dsimp only [World.drew] at *; omega))

  cases h2 : dottedB a.d
  · have HF := Lib.hid (addrE_d h2)
    have H1 := Lib.hid h1
    have H2 := Lib.hid h2
    clear h1 h2
    obtain ⟨l, d⟩ := a
    unfold Adr.val
    dsimp only at *
    go_enter Tryz.func74, Tryz.ntmps74
    go_wp2_with (first | (go_at_call 134; clear tok; refine (dottedMay_any l _ ?_).mono ?_; (unfold maxLen; omega); rintro e w1 ⟨rfl, hb1⟩; rw [H1.out]; obtain ⟨k17a, k17b, k17c⟩ := own_at hb1 (b := w.heap.size) (by first | omega | (simp; done) | (simp; omega)); have z18 := hb1.size; (try simp only [World.size_alloc, World.size_setCell] at z18)) | (go_at_call 134; refine (dottedMay_any d _ ?_).mono ?_; (unfold maxLen; omega); rintro e w2 ⟨rfl, hb2⟩; rw [H2.out]; obtain ⟨k19a, k19b, k19c⟩ := own_at hb2 (b := w.heap.size) (by first | omega | (simp; done) | (simp; omega)); have z20 := hb2.size; (try simp only [World.size_alloc, World.size_setCell] at z20)))
    go_ret
    refine ⟨by rw [HF.out]; rfl, ?_⟩
    (repeat (first | with_reducible exact hb2 | with_reducible refine Below.trans ?_ (Below.mono hb2 ?_) | with_reducible exact hb1 | with_reducible refine Below.trans ?_ (Below.mono hb1 ?_) | with_reducible exact Below.refl _ _ | with_reducible refine Below.setCell ?_ ?_ _ | with_reducible refine Below.alloc ?_ ?_ _ | with_reducible refine Below.drew ?_ | with_reducible refine below_drewN ?_ _))
    all_goals (first | omega | (simp; done) | (simp; omega) | (dsimp only [World.drew] at *; omega))

  by_cases h3 : 99 < a.l.size + a.d.size
  · have HF := Lib.hid (addrE_big h1 h2 h3)
    have H1 := Lib.hid h1
    have H2 := Lib.hid h2
    clear h1 h2
    obtain ⟨l, d⟩ := a
    unfold Adr.val
    dsimp only at *
    have i1 : (99 : Int) < (l.size : Int) + d.size := by omega
    go_enter Tryz.func74, Tryz.ntmps74
    go_wp2_with (first | (go_at_call 134; clear tok; refine (dottedMay_any l _ ?_).mono ?_; (unfold maxLen; omega); rintro e w1 ⟨rfl, hb1⟩; rw [H1.out]; obtain ⟨k21a, k21b, k21c⟩ := own_at hb1 (b := w.heap.size) (by first | omega | (simp; done) | (simp; omega)); have z22 := hb1.size; (try simp only [World.size_alloc, World.size_setCell] at z22)) | (go_at_call 134; refine (dottedMay_any d _ ?_).mono ?_; (unfold maxLen; omega); rintro e w2 ⟨rfl, hb2⟩; rw [H2.out]; obtain ⟨k23a, k23b, k23c⟩ := own_at hb2 (b := w.heap.size) (by first | omega | (simp; done) | (simp; omega)); have z24 := hb2.size; (try simp only [World.size_alloc, World.size_setCell] at z24)))
    go_ret
    refine ⟨by rw [HF.out]; rfl, ?_⟩
    (repeat (first | with_reducible exact hb2 | with_reducible refine Below.trans ?_ (Below.mono hb2 ?_) | with_reducible exact hb1 | with_reducible refine Below.trans ?_ (Below.mono hb1 ?_) | with_reducible exact Below.refl _ _ | with_reducible refine Below.setCell ?_ ?_ _ | with_reducible refine Below.alloc ?_ ?_ _ | with_reducible refine Below.drew ?_ | with_reducible refine below_drewN ?_ _))
    all_goals (first | omega | (simp; done) | (simp; omega) | (dsimp only [World.drew] at *; omega))

  · have HF := Lib.hid (addrE_ok h1 h2 h3)
    have H1 := Lib.hid h1
    have H2 := Lib.hid h2
    clear h1 h2
    obtain ⟨l, d⟩ := a
    unfold Adr.val
    dsimp only at *
    have i1 : ¬ ((99 : Int) < (l.size : Int) + d.size) := by omega
    clear h3
    go_enter Tryz.func74, Tryz.ntmps74
    go_wp2_with (first | (go_at_call 134; clear tok; refine (dottedMay_any l _ ?_).mono ?_; (unfold maxLen; omega); rintro e w1 ⟨rfl, hb1⟩; rw [H1.out]; obtain ⟨k25a, k25b, k25c⟩ := own_at hb1 (b := w.heap.size) (by first | omega | (simp; done) | (simp; omega)); have z26 := hb1.size; (try simp only [World.size_alloc, World.size_setCell] at z26)) | (go_at_call 134; refine (dottedMay_any d _ ?_).mono ?_; (unfold maxLen; omega); rintro e w2 ⟨rfl, hb2⟩; rw [H2.out]; obtain ⟨k27a, k27b, k27c⟩ := own_at hb2 (b := w.heap.size) (by first | omega | (simp; done) | (simp; omega)); have z28 := hb2.size; (try simp only [World.size_alloc, World.size_setCell] at z28)))
    go_ret
    refine ⟨by rw [HF.out]; rfl, ?_⟩
    (repeat (first | with_reducible exact hb2 | with_reducible refine Below.trans ?_ (Below.mono hb2 ?_) | with_reducible exact hb1 | with_reducible refine Below.trans ?_ (Below.mono hb1 ?_) | with_reducible exact Below.refl _ _ | with_reducible refine Below.setCell ?_ ?_ _ | with_reducible refine Below.alloc ?_ ?_ _ | with_reducible refine Below.drew ?_ | with_reducible refine below_drewN ?_ _))
    all_goals (first | omega | (simp; done) | (simp; omega) | (dsimp only [World.drew] at *; omega))

end Go.Proofs.YtidldcfpmehpiaaGreatDoor

namespace Go.Proofs.YtidldcfpmehpiaaGreatDoor
open Go.RowKit
set_option linter.unusedSimpArgs false
set_option linter.unusedVariables false
set_option linter.unusedVariables false
/-- the library's word on long texts -/
def LibT (T : Tbl) : Prop := ∃ m : Int, (T 3)[0]? = some (.int .i64 m)
theorem LibT.lib0 {T : Tbl} (h : LibT T) {F : Frz} {w : World} (hF : ∀ b o u, F b o = some u → w.cell? ⟨b, o, none⟩ = some u) (hT : ∀ g j x, (T g)[j]? = some x → ∃ u, F g j = some u ∧ VD F x u) : Lib0 w := by
  obtain ⟨m, hm⟩ := h
  obtain ⟨u, h1, h2⟩ := tbl_cell hF hT hm
  obtain rfl := h2.int_inv
  exact ⟨World.block_lt_of_cell? w ⟨3, 0, none⟩ h1, m, h1⟩
theorem atom_p (T : Tbl) (c : UInt8) : PC Tryz.prog T 205 [.d (.int .u8 c.toNat)] (.d (.bool (atomB c))) := PC.old Tryz.call205 fun F w vs hF hT R => by
  obtain ⟨v, rfl, hv⟩ := slr1 R
  obtain rfl := hv.int_inv
  refine (atom_any c w).mono ?_
  rintro e w' ⟨rfl, rfl⟩
  exact ⟨_, rfl, Below.refl _ _, .bool _⟩
theorem atomByte_p (T : Tbl) (c : UInt8) : PC Tryz.prog T 223 [.d (.int .u8 c.toNat)] (.d (.bool (atomB c))) := PC.old Tryz.call223 fun F w vs hF hT R => by
  obtain ⟨v, rfl, hv⟩ := slr1 R
  obtain rfl := hv.int_inv
  refine (atomByte_any c w).mono ?_
  rintro e w' ⟨rfl, hb⟩
  exact ⟨_, rfl, hb, .bool _⟩
theorem adr_vs {G : Gh} {l d : Tx} {vs : Array Value} (R : SlR G [.agg [.d (.str l), .d (.str d)]] vs) : ∃ a : Adr, vs = #[a.val] ∧ a.l.data.toList = l ∧ a.d.data.toList = d := by
  obtain ⟨v, rfl, hv⟩ := slr1 R
  obtain ⟨us, rfl, hu⟩ := hv.agg_inv
  obtain ⟨x, y, rfl, hx, hy⟩ := slr2 hu
  obtain ⟨p, rfl, h1, _⟩ := hx.str_inv
  obtain ⟨q, rfl, h2, _⟩ := hy.str_inv
  exact ⟨⟨p, q⟩, rfl, h1, h2⟩
theorem adrE_of {a : Adr} {l d : Tx} (h1 : a.l.data.toList = l) (h2 : a.d.data.toList = d) : addrE a = adrE l d := by
  subst h1 h2
  simp only [addrE, adrE, dottedB, bs, size_data]
  congr
theorem whoCheck_p (T : Tbl) (hL : LibT T) (l d : Tx) (h1 : l.length ≤ 1048576) (h2 : d.length ≤ 1048576) : PC Tryz.prog T 68 [.agg [.d (.str l), .d (.str d)]] (.d (.int .i64 (adrE l d))) := PC.old Tryz.call68 fun F w vs hF hT R => by
  obtain ⟨a, rfl, e1, e2⟩ := adr_vs R
  refine (whoCheck_any a w ⟨by rw [← size_data, e1]; exact h1, by rw [← size_data, e2]; exact h2⟩ (hL.lib0 hF hT)).mono ?_
  rintro e w' ⟨rfl, hb⟩
  exact ⟨_, rfl, hb, by rw [adrE_of e1 e2]; exact .int _ _⟩
theorem addrFault_bp (T : Tbl) (l d : Tx) (h1 : l.length ≤ 4294967296) (h2 : d.length ≤ 4294967296) : PC Tryz.prog T 74 [.agg [.d (.str l), .d (.str d)]] (.d (.int .i64 (adrE l d))) := PC.old Tryz.call74 fun F w vs hF hT R => by
  obtain ⟨a, rfl, e1, e2⟩ := adr_vs R
  refine (addrFault_big a w ⟨by rw [← size_data, e1]; exact h1, by rw [← size_data, e2]; exact h2⟩).mono ?_
  rintro e w' ⟨rfl, hb⟩
  exact ⟨_, rfl, hb, by rw [adrE_of e1 e2]; exact .int _ _⟩
end Go.Proofs.YtidldcfpmehpiaaGreatDoor

namespace Go.Proofs.YtidldcfpmehpiaaGreatDoor
open Go.RowKit
set_option linter.unusedSimpArgs false
set_option linter.unusedVariables false
open Go.ChangeShapes Go.WideShapes Go.ChangeAt
open Go.ChangeMaps (open_string)
set_option maxRecDepth 20000
end Go.Proofs.YtidldcfpmehpiaaGreatDoor

namespace Go.Proofs.YtidldcfpmehpiaaGreatDoor
open Go.RowKit
set_option linter.unusedSimpArgs false
set_option linter.unusedVariables false
open Go.ChangeShapes Go.WideShapes Go.ChangeAt
def tabT : List (Nat × List D) → Tbl
  | [], _ => []
  | p :: l, g => if g = p.1 then p.2 else tabT l g
structure TabOk (W : World) (p : Nat × List D) : Prop where
  ok : ∀ (j : Nat) (x : D), p.2[j]? = some x → ∃ u, frzW W p.1 j = some u ∧ VD (frzW W) x u
theorem tabT_ok {W : World} : ∀ {l : List (Nat × List D)}, (∀ p ∈ l, TabOk W p) → ∀ g j x, (tabT l g)[j]? = some x → ∃ u, frzW W g j = some u ∧ VD (frzW W) x u
  | [], _, g, j, x, hx => by simp [tabT] at hx
  | p :: l, h, g, j, x, hx => by
    unfold tabT at hx
    split at hx
    · rename_i hg
      subst hg
      exact (h p (List.mem_cons_self ..)).ok j x hx
    · exact tabT_ok (fun q hq => h q (List.mem_cons_of_mem _ hq)) g j x hx
theorem TabOk.texts {W : World} {g : Nat} {zs : List (List UInt8)} (h : TextsAt W g zs) (hz : zs.all (fun z => Nat.ble z.length 4096) = true) : TabOk W (g, zs.map D.str) := ⟨fun j x hx => by
  rw [List.getElem?_map] at hx
  obtain ⟨z, hz1, rfl⟩ := Option.map_eq_some_iff.1 hx
  have := List.all_eq_true.1 hz z (List.mem_of_getElem? hz1)
  have hb := Nat.le_of_ble_eq_true this
  have hm : (4096 : Nat) ≤ maxLen := by decide
  exact ⟨_, h j z hz1, VD.bstr z (by omega)⟩⟩
theorem TabOk.int {W : World} {g : Nat} {m : Int} (h : W.cell? ⟨g, 0, none⟩ = some (.int .i64 m)) : TabOk W (g, [.int .i64 m]) := ⟨fun j x hx => by
  cases j with
  | zero => simp at hx; subst hx; exact ⟨_, h, .int _ _⟩
  | succ j => simp at hx⟩
end Go.Proofs.YtidldcfpmehpiaaGreatDoor

namespace Go.Proofs.YtidldcfpmehpiaaGreatDoor
set_option linter.unusedSimpArgs false
set_option linter.unusedVariables false
theorem byte_is (c d : UInt8) : ((c.toNat : Int) = (d.toNat : Int)) ↔ c = d := ⟨fun h => UInt8.toNat_inj.1 (by omega), fun h => by rw [h]⟩
theorem drop_cons {s : Tx} {j : Nat} (h : j < s.length) : s.drop j = s.getD j 0 :: s.drop (j + 1) := by
  rw [List.drop_eq_getElem_cons h]
  simp [List.getD, List.getElem?_eq_getElem h]
theorem drop_none {s : Tx} {j : Nat} (h : s.length ≤ j) : s.drop j = [] := List.drop_eq_nil_of_le h
theorem blk_of {c : UInt8} (h : (c.toNat : Int) = 32 ∨ (c.toNat : Int) = 9) : blkB c = true := by
  rcases h with h | h
  · rw [(byte_is c 32).1 h]; rfl
  · rw [(byte_is c 9).1 h]; rfl
theorem blk_no {c : UInt8} (h : ¬ ((c.toNat : Int) = 32 ∨ (c.toNat : Int) = 9)) : blkB c = false := by
  cases e : blkB c with
  | false => rfl
  | true =>
    exfalso
    simp only [blkB, Bool.or_eq_true, beq_iff_eq] at e
    rcases e with rfl | rfl
    · exact h (.inl rfl)
    · exact h (.inr rfl)
theorem runB_eq (c : UInt8) : runB c = (atomB c || decide ((c.toNat : Int) = 46)) := by
  unfold runB
  congr 1
  rw [Bool.eq_iff_iff, beq_iff_eq, decide_eq_true_eq]
  exact (byte_is c 46).symm
theorem sk_step {s : Tx} {j : Nat} (h : j < s.length) (hb : blkB (s.getD j 0) = true) : skipS (s.drop j) = skipS (s.drop (j + 1)) := by rw [drop_cons h, skip_cons hb]
theorem sk_end {s : Tx} {j : Nat} (h : j < s.length → blkB (s.getD j 0) = false) : skipS (s.drop j) = s.drop j := by
  rcases Nat.lt_or_ge j s.length with hj | hj
  · rw [drop_cons hj, skip_stay (h hj)]
  · rw [drop_none hj]; rfl
theorem run_step {s : Tx} {j : Nat} (h : j < s.length) (hb : runB (s.getD j 0) = true) : runS (s.drop j) = s.getD j 0 :: runS (s.drop (j + 1)) ∧ offS (s.drop j) = offS (s.drop (j + 1)) := by
  rw [drop_cons h, runS_cons hb]
  refine ⟨rfl, ?_⟩
  unfold offS; rw [List.dropWhile_cons, if_pos hb]
theorem run_end {s : Tx} {j : Nat} (h : j < s.length → runB (s.getD j 0) = false) : runS (s.drop j) = [] ∧ offS (s.drop j) = s.drop j := by
  rcases Nat.lt_or_ge j s.length with hj | hj
  · rw [drop_cons hj, runS_no (h hj), offS_no (h hj)]; exact ⟨rfl, rfl⟩
  · rw [drop_none hj]; exact ⟨rfl, rfl⟩
theorem take_step {s : Tx} {i j : Nat} (h : j < s.length) (hi : i ≤ j) (Z : Tx) : (s.take j).drop i ++ s.getD j 0 :: Z = (s.take (j + 1)).drop i ++ Z := by
  have : s.take (j + 1) = s.take j ++ [s.getD j 0] := by
    rw [List.take_add_one]; simp [List.getD, List.getElem?_eq_getElem h]
  rw [this, List.drop_append_of_le_length (by simp; omega)]
  simp
theorem head_is {s : Tx} {j n : Nat} (c : UInt8) (hc : c.toNat = n) (hn : 0 < n) (h : (((s.drop j).headD 0).toNat : Int) = (n : Int)) : j < s.length ∧ s.drop j = c :: s.drop (j + 1) := by
  rcases Nat.lt_or_ge j s.length with hj | hj
  · refine ⟨hj, ?_⟩
    rw [drop_cons hj] at h ⊢
    simp only [List.headD_cons] at h
    have : s.getD j 0 = c := UInt8.toNat_inj.1 (by omega)
    rw [this]
  · rw [drop_none hj] at h; simp at h; omega
theorem head_no {s : Tx} {j n : Nat} {c : UInt8} (hc : c.toNat = n) (h : ¬ (((s.drop j).headD 0).toNat : Int) = (n : Int)) : (s.drop j).head? ≠ some c := by
  intro e
  cases e2 : s.drop j with
  | nil => rw [e2] at e; simp at e
  | cons x r => rw [e2] at e h; simp at e; subst e; simp at h; omega
theorem quo_end {r : Tx} : quoS (34 :: r) = some r := by cases r <;> simp [quoS]
theorem quo_esc {c : UInt8} {r : Tx} : quoS (92 :: c :: r) = quoS r := by simp [quoS]
theorem quo_esc1 : quoS [92] = none := by simp [quoS]
theorem quo_step {c : UInt8} {r : Tx} (h1 : c ≠ 34) (h2 : c ≠ 92) : quoS (c :: r) = quoS r := by cases r <;> simp [quoS, h1, h2]
/-- the reader of a list -/
def qob (b : Nat) (s : Tx) (i : Nat) : Nat × Ob := (b, ⟨2, 1, [[.d (.str s), .d (.int .i64 i)]]⟩)
attribute [go_sem] qob
def errV : AV := .ifc 25 (.d (.int .i64 3))
attribute [local go_sem] qob in
set_option maxRecDepth 4000 in
set_option maxHeartbeats 1000000 in
theorem skip_c (T : Tbl) (b : Nat) (s : Tx) (i : Nat) (F : List (Nat × Ob)) (L : List Nat) (hi : i ≤ s.length) (hs : s.length ≤ 4096) : AC Tryz.prog T 220 [.ptr b 2 0 0] (⟨qob b s i :: F, L⟩) (fun x h => ∃ j, i ≤ j ∧ j ≤ s.length ∧ s.drop j = skipS (s.drop i) ∧ x = .ret (.tup []) ∧ h = ⟨qob b s j :: F, L⟩) := by
 refine ⟨Tryz.call220, ACalls.enterS Tryz.func220 rfl Tryz.ntmps220 rfl fun hb => ?_⟩
 simp only [go_sem, Tryz.results220]
 refine AWp.block ?_
 refine Zl 1 0 (fun n lc hc => ∃ (j : Nat), n = s.length - j ∧ EqS lc [] ∧ EqS hc (⟨qob b s j :: F, L⟩) ∧ (i ≤ j) ∧ (j ≤ s.length) ∧ (skipS (s.drop j) = skipS (s.drop i))) ⟨_, i, rfl, ZE, ZE, ZI, ZI, ZI⟩ ?_
 rintro _ _ _ ⟨j, rfl, ⟨rfl⟩, ⟨rfl⟩, h1, h2, h3⟩
 simp only [go_sem]
 refine Zs ?_
 refine Zd true [0, 1, 2, 3, 4, 5, 6, 7, 8, 9, 10, 11, 12, 13, 14, 15, 16, 17, 18, 19, 20, 21, 22, 23, 24, 25, 26, 27, 28, 29, 30, 31, 32, 33] ?_
 try simp only [go_sem]
 (repeat (with_reducible refine And.intro ZS ?_))
 refine Zm 17179869185 ?_
 refine Zc (fun hc0 => ?_) fun hc0 => ?_
 ·
  refine Zk ?_
  refine AWp.block ?_
  refine Zr (blkQ_n (thenQ_n ?_))
  refine Ze 1 0 [] [] [b] [] (.e ⟨_, ZM, j + 1, rfl, ZE, ?_, ?_, ?_, ?_⟩)
  · (try simp only [go_sem]) <;> first | exact ⟨rfl⟩ | (constructor; simp [qob]; done)
  · omega
  · omega
  · rw [← sk_step (by omega) (blk_of (by simpa using hc0.2))]; exact h3
 refine AWp.exit (thenQ_e (thenQ_e (blkQ_e ?_)))
 apply endW_n [] [] [b] [] (by (try simp only [go_sem]); rfl)
 · refine ⟨j, h1, h2, ?_, rfl, ?_⟩
   · rw [← h3, sk_end (fun hj => blk_no (fun hb => ?_))]
     rcases hc0 with hc0 | hc0
     · omega
     · omega
   · simp only [go_sem, qob]
 · simp only [LeA, LeL]
attribute [local go_sem] qob in
set_option maxRecDepth 4000 in
set_option maxHeartbeats 1000000 in
theorem next_c (T : Tbl) (b : Nat) (s : Tx) (i : Nat) (F : List (Nat × Ob)) (L : List Nat) (hi : i ≤ s.length) (hs : s.length ≤ 4096) : AC Tryz.prog T 222 [.ptr b 2 0 0] (⟨qob b s i :: F, L⟩) (fun x h => x = .ret (.d (.int .u8 ((s.drop i).headD 0).toNat)) ∧ h = ⟨qob b s i :: F, L⟩) := by
 refine ⟨Tryz.call222, ACalls.enterS Tryz.func222 rfl Tryz.ntmps222 rfl fun hb => ?_⟩
 simp only [go_sem, Tryz.results222]
 refine Zp 1 ?_
 refine Zs ?_
 refine Zd true [0, 1, 2, 3, 4, 5, 6, 7, 8, 9] ?_
 try simp only [go_sem]
 (repeat (with_reducible refine And.intro ZS ?_))
 refine Zm 1025 ?_
 refine Zc (fun hc0 => ?_) fun hc0 => ?_
 ·
  refine Zp 2 ?_
  refine AWp.ret ?_
  try simp only [thenQ, blkQ]
  apply endW_r [] [] [b] [] (by (try simp only [go_sem]); rfl)
  · refine ⟨rfl, ?_⟩
    simp only [go_sem, qob]
  · rw [drop_none (by omega)]; simp [LeA, LeD]
 refine Zk ?_
 refine Zd true [0, 1, 2, 3, 4, 5, 6, 7, 8, 9] ?_
 try simp only [go_sem]
 (repeat (with_reducible refine And.intro ZS ?_))
 refine Zm 2 ?_
 refine AWp.ret ?_
 try simp only [thenQ, blkQ]
 apply endW_r [] [] [b] [] (by (try simp only [go_sem]); rfl)
 · refine ⟨rfl, ?_⟩
   simp only [go_sem, qob]
 · rw [drop_cons (by omega)]; simp [LeA, LeD]
attribute [local go_sem] qob in
set_option maxRecDepth 4000 in
set_option maxHeartbeats 1000000 in
theorem run_c (T : Tbl) (b : Nat) (s : Tx) (i : Nat) (F : List (Nat × Ob)) (L : List Nat) (hi : i ≤ s.length) (hs : s.length ≤ 4096) : AC Tryz.prog T 264 [.ptr b 2 0 0] (⟨qob b s i :: F, L⟩) (fun x h => ∃ j, i ≤ j ∧ j ≤ s.length ∧ s.drop j = offS (s.drop i) ∧ x = .ret (.d (.str (runS (s.drop i)))) ∧ h = ⟨qob b s j :: F, L⟩) := by
 refine ⟨Tryz.call264, ACalls.enterS Tryz.func264 rfl Tryz.ntmps264 rfl fun hb => ?_⟩
 simp only [go_sem, Tryz.results264]
 refine Zp 1 ?_
 refine Zp 3 ?_
 refine Zs ?_
 refine AWp.block ?_
 simp only [go_sem]
 refine Zl 3 0 (fun n lc hc => ∃ (j : Nat), n = s.length - j ∧ EqS lc [] ∧ EqS hc (⟨qob b s j :: F, L⟩) ∧ (i ≤ j) ∧ (j ≤ s.length) ∧ (offS (s.drop j) = offS (s.drop i)) ∧ ((s.take j).drop i ++ runS (s.drop j) = runS (s.drop i))) ?_ ?_
 · refine ⟨_, i, rfl, ZE, ZE, ?_, ?_, ?_, ?_⟩
   all_goals (first | omega | rfl | (simp; done))
 rintro _ _ _ ⟨j, rfl, ⟨rfl⟩, ⟨rfl⟩, h1, h2, h3, h4⟩
 simp only [go_sem]
 refine Zs ?_
 refine Zd true [0, 1, 2, 3, 4, 5, 6, 7, 8, 9, 10, 11, 12, 13, 14, 15, 16, 17, 18, 19, 20, 21, 22, 23, 24, 25, 26, 27, 28, 29, 30, 31, 32, 33] ?_
 try simp only [go_sem]
 (repeat (with_reducible refine And.intro ZS ?_))
 refine DW.pcgr rfl rfl rfl rfl rfl (fun hg => atom_p T _) (fun hg => by (try simp only [go_sem]) <;> first | exact hg | (exfalso; simp at hg; done) | (simpa using hg) | grind) rfl rfl ?_
 try simp only [go_sem]
 (repeat (with_reducible refine And.intro ZS ?_))
 refine Zm 34359738371 ?_
 refine Zc (fun hc0 => ?_) fun hc0 => ?_
 ·
  have hrb : ∀ h, runB (s.getD j 0) = true := fun (h : (atomB (s.getD j 0) = true ∨ ((s.getD j 0).toNat : Int) = 46)) => by rw [runB_eq]; simpa using h
  refine Zk ?_
  refine AWp.block ?_
  refine Zr (blkQ_n (thenQ_n ?_))
  refine Ze 3 0 [] [] [b] [] (.e ⟨_, ZM, j + 1, rfl, ZE, ?_, ?_, ?_, ?_, ?_⟩)
  · (try simp only [go_sem]) <;> first | exact ⟨rfl⟩ | (constructor; simp [qob]; done)
  · omega
  · omega
  · rw [← (run_step (by omega) (hrb hc0.2)).2]; exact h3
  · rw [(run_step (by omega) (hrb hc0.2)).1, take_step (by omega) h1] at h4; exact h4
 have he := run_end (s := s) (j := j) (fun hj => by
   rw [runB_eq]
   rcases hc0 with hc0 | hc0
   · omega
   · simpa using hc0)
 refine AWp.exit (thenQ_e (thenQ_e (blkQ_e (thenQ_n ?_))))
 refine Zd true [0, 1, 2, 3, 4, 5, 6, 7, 8, 9, 10] ?_
 try simp only [go_sem]
 (repeat (with_reducible refine And.intro ZS ?_))
 refine Zm 2 ?_
 refine AWp.ret ?_
 try simp only [thenQ, blkQ]
 apply endW_r [] [] [b] [] (by (try simp only [go_sem]); rfl)
 · refine ⟨j, h1, h2, ?_, rfl, ?_⟩
   · rw [← h3, he.2]
   · simp only [go_sem, qob]
 · rw [he.1, List.append_nil] at h4; rw [← h4]; simp [LeA, LeD]
set_option maxRecDepth 4000 in
set_option maxHeartbeats 1000000 in
theorem must_c (T : Tbl) (ok : Bool) (h : AH) : AC Tryz.prog T 221 [.d (.bool ok)] (h) (fun x h' => (ok = false ∧ x = .pan errV ∧ h' = h) ∨ (ok = true ∧ x = .ret (.tup []) ∧ h' = h)) := by
 refine ⟨Tryz.call221, ACalls.enterS Tryz.func221 rfl Tryz.ntmps221 rfl fun hb => ?_⟩
 simp only [go_sem, Tryz.results221]
 refine Zp 4 ?_
 refine Zc (fun hc0 => ?_) fun hc0 => ?_
 ·
  refine Zq fun K_ k_ => ?_
  try simp only [go_sem]
  (repeat (with_reducible refine And.intro ZS ?_))
  refine DW.panic rfl rfl rfl ?_
  intro _
  refine endW_p [] [] [] [] ?_
  exact .inl ⟨by simpa using hc0, rfl, rfl⟩
 refine AWp.skip ?_
 apply endW_n [] [] [] [] (by (try simp only [go_sem]); rfl)
 · exact .inr ⟨by simpa using hc0, rfl, rfl⟩
 · simp only [LeA, LeL]
attribute [local go_sem] qob in
set_option maxRecDepth 4000 in
set_option maxHeartbeats 1000000 in
theorem quoted_c (T : Tbl) (b : Nat) (s : Tx) (i : Nat) (F : List (Nat × Ob)) (L : List Nat) (hi : i < s.length) (hs : s.length ≤ 4096) : AC Tryz.prog T 262 [.ptr b 2 0 0] (⟨qob b s i :: F, L⟩) (fun x h => (quoS (s.drop (i + 1)) = none ∧ x = .pan errV ∧ ∃ j, h = ⟨qob b s j :: F, L⟩) ∨ ∃ j, i < j ∧ j ≤ s.length ∧ quoS (s.drop (i + 1)) = some (s.drop j) ∧ x = .ret (.tup []) ∧ h = ⟨qob b s j :: F, L⟩) := by
 refine ⟨Tryz.call262, ACalls.enterS Tryz.func262 rfl Tryz.ntmps262 rfl fun hb => ?_⟩
 simp only [go_sem, Tryz.results262]
 refine Zs ?_
 refine Zp 1 ?_
 refine AWp.block ?_
 simp only [go_sem]
 refine Zl 1 0 (fun n lc hc => ∃ (j : Nat), n = s.length - j ∧ EqS lc [] ∧ EqS hc (⟨qob b s j :: F, L⟩) ∧ (i < j) ∧ (j ≤ s.length) ∧ (quoS (s.drop j) = quoS (s.drop (i + 1)))) ?_ ?_
 · refine ⟨_, i + 1, rfl, ZE, ?_, ZI, ZI, ZI⟩
   · (try simp only [go_sem]) <;> first | exact ⟨rfl⟩ | (constructor; simp [qob]; done)
 rintro _ _ _ ⟨j, rfl, ⟨rfl⟩, ⟨rfl⟩, h1, h2, h3⟩
 simp only [go_sem]
 refine Zs ?_
 refine Zx ?_
 try simp only [go_sem]
 (repeat (with_reducible refine And.intro ZS ?_))
 refine DW.acp [b] [] rfl rfl rfl rfl (by (try simp only [go_sem]); rfl) rfl (next_c T b s j _ _ (by omega) hs) ?_
 rintro _ _ ⟨rfl, rfl⟩
 try simp only [go_sem]
 (repeat (with_reducible refine And.intro ZS ?_))
 refine Zc (fun hc0 => ?_) fun hc0 => ?_
 ·
  have hn34 := head_no (c := 34) rfl hc0
  refine Zk ?_
  refine Zs ?_
  refine AWp.block ?_
  refine Zs ?_
  refine Zx ?_
  try simp only [go_sem]
  (repeat (with_reducible refine And.intro ZS ?_))
  refine DW.acp [b] [] rfl rfl rfl rfl (by (try simp only [go_sem]); rfl) rfl (next_c T b s j _ _ (by omega) hs) ?_
  rintro _ _ ⟨rfl, rfl⟩
  try simp only [go_sem]
  (repeat (with_reducible refine And.intro ZS ?_))
  refine Zm 65 ?_
  refine Zc (fun hc1 => ?_) fun hc1 => ?_
  ·
   obtain ⟨hj, hd⟩ := head_is 92 rfl (by decide) hc1
   have hst : quoS (s.drop (j + 1 + 1)) = quoS (s.drop j) ∨ s.length ≤ j + 1 := by
     rcases Nat.lt_or_ge (j + 1) s.length with h | h
     · left; rw [hd, drop_cons h, quo_esc]
     · exact .inr h
   refine Zr (thenQ_n ?_)
   refine Zm 1 ?_
   refine Zt false [0, 1, 2, 3, 4, 5, 6, 7, 8, 9, 10] fun K_ k_ => ?_
   try simp only [go_sem]
   (repeat (with_reducible refine And.intro ZS ?_))
   refine DW.acp [] [] rfl rfl rfl rfl (by (try simp only [go_sem]); rfl) rfl (must_c T _ _) ?_
   rintro _ _ (⟨hm1, rfl, rfl⟩ | ⟨hm1, rfl, rfl⟩)
   ·
    intro _
    try simp only [thenQ, blkQ]
    refine endW_p [] [] [b] [] ?_
    simp only [decide_eq_true_eq, decide_eq_false_iff_not, Bool.not_eq_true', Bool.not_eq_false', Bool.and_eq_true, Bool.or_eq_true, Bool.and_eq_false_iff, Bool.or_eq_false_iff, Int.not_lt, Int.not_le, beq_iff_eq, beq_eq_false_iff_ne, ne_eq, Bool.not_eq_true, Bool.not_eq_false] at hm1
    first | exact .inl ⟨by rw [← h3, hd, drop_none (by omega)]; exact quo_esc1, rfl, j + 1, by simp [go_sem, qob]⟩ | exact .inl ⟨by rw [← h3, drop_none (by omega)]; rfl, rfl, j, by simp only [go_sem, qob]⟩
   simp only [decide_eq_true_eq, decide_eq_false_iff_not, Bool.not_eq_true', Bool.not_eq_false', Bool.and_eq_true, Bool.or_eq_true, Bool.and_eq_false_iff, Bool.or_eq_false_iff, Int.not_lt, Int.not_le, beq_iff_eq, beq_eq_false_iff_ne, ne_eq, Bool.not_eq_true, Bool.not_eq_false] at hm1
   try simp only [go_sem]
   (repeat (with_reducible refine And.intro ZS ?_))
   refine k_ _ _ (blkQ_n (thenQ_n ?_))
   refine Zm 1 ?_
   refine Zr (thenQ_n ?_)
   refine Ze 1 0 [] [] [b] [] (.e ⟨_, ZM, j + 1 + 1, rfl, ZE, ?_, ?_, ?_, ?_⟩)
   · (try simp only [go_sem]) <;> first | exact ⟨rfl⟩ | (constructor; simp [qob]; done)
   · omega
   · omega
   · rcases hst with e | e <;> first | omega | (rw [e]; exact h3)
  have hn92 := head_no (c := 92) rfl hc1
  have hst : s.length ≤ j ∨ quoS (s.drop (j + 1)) = quoS (s.drop j) := by
    rcases Nat.lt_or_ge j s.length with h | h
    · right
      rw [drop_cons h] at hn34 hn92 ⊢
      simp at hn34 hn92
      exact (quo_step hn34 hn92).symm
    · exact .inl h
  refine Zk ?_
  refine Zt false [0, 1, 2, 3, 4, 5, 6, 7, 8, 9, 10] fun K_ k_ => ?_
  try simp only [go_sem]
  (repeat (with_reducible refine And.intro ZS ?_))
  refine DW.acp [] [] rfl rfl rfl rfl (by (try simp only [go_sem]); rfl) rfl (must_c T _ _) ?_
  rintro _ _ (⟨hm2, rfl, rfl⟩ | ⟨hm2, rfl, rfl⟩)
  ·
   intro _
   try simp only [thenQ, blkQ]
   refine endW_p [] [] [b] [] ?_
   simp only [decide_eq_true_eq, decide_eq_false_iff_not, Bool.not_eq_true', Bool.not_eq_false', Bool.and_eq_true, Bool.or_eq_true, Bool.and_eq_false_iff, Bool.or_eq_false_iff, Int.not_lt, Int.not_le, beq_iff_eq, beq_eq_false_iff_ne, ne_eq, Bool.not_eq_true, Bool.not_eq_false] at hm2
   first | exact .inl ⟨by rw [← h3, hd, drop_none (by omega)]; exact quo_esc1, rfl, j + 1, by simp [go_sem, qob]⟩ | exact .inl ⟨by rw [← h3, drop_none (by omega)]; rfl, rfl, j, by simp only [go_sem, qob]⟩
  simp only [decide_eq_true_eq, decide_eq_false_iff_not, Bool.not_eq_true', Bool.not_eq_false', Bool.and_eq_true, Bool.or_eq_true, Bool.and_eq_false_iff, Bool.or_eq_false_iff, Int.not_lt, Int.not_le, beq_iff_eq, beq_eq_false_iff_ne, ne_eq, Bool.not_eq_true, Bool.not_eq_false] at hm2
  try simp only [go_sem]
  (repeat (with_reducible refine And.intro ZS ?_))
  refine k_ _ _ (blkQ_n (thenQ_n ?_))
  refine Zm 1 ?_
  refine Zr (thenQ_n ?_)
  refine Ze 1 0 [] [] [b] [] (.e ⟨_, ZM, j + 1, rfl, ZE, ?_, ?_, ?_, ?_⟩)
  · (try simp only [go_sem]) <;> first | exact ⟨rfl⟩ | (constructor; simp [qob]; done)
  · omega
  · omega
  · rcases hst with e | e <;> first | omega | (rw [e]; exact h3)
 obtain ⟨hj, hd⟩ := head_is 34 rfl (by decide) hc0
 refine AWp.exit (thenQ_e (thenQ_e (blkQ_e (thenQ_n ?_))))
 refine Zr ?_
 apply endW_n [] [] [b] [] (by (try simp only [go_sem]); rfl)
 · refine .inr ⟨j + 1, by omega, by omega, ?_, rfl, ?_⟩
   · rw [← h3, hd, quo_end]
   · simp only [go_sem, qob]; simp
 · simp only [LeA, LeL]
end Go.Proofs.YtidldcfpmehpiaaGreatDoor

namespace Go.Proofs.YtidldcfpmehpiaaGreatDoor
set_option linter.unusedSimpArgs false
set_option linter.unusedVariables false
theorem bare_at {l : Tx} {s : Tx} {j : Nat} (hd : s.drop j = 64 :: s.drop (j + 1)) (h : adrE l (runS (s.drop (j + 1))) = 0) : bareS l (s.drop j) = some ((l, runS (s.drop (j + 1))), offS (s.drop (j + 1))) := by
  rw [hd, bareS, if_pos ⟨rfl, h⟩]
theorem bare_no {l : Tx} {s : Tx} {j : Nat} (h : (s.drop j).head? = some 64 → adrE l (runS (s.drop (j + 1))) ≠ 0) : bareS l (s.drop j) = none := by
  rcases Nat.lt_or_ge j s.length with hj | hj
  · rw [drop_cons hj] at h ⊢
    rw [bareS, if_neg]
    rintro ⟨h1, h2⟩
    exact h (by rw [h1]; rfl) h2
  · rw [drop_none hj]; rfl
theorem run_len (s : Tx) (j : Nat) : (runS (s.drop j)).length ≤ s.length := by
  have := (List.takeWhile_sublist (l := s.drop j) runB).length_le
  unfold runS
  simp at this ⊢
  omega
theorem gt_no {a : Ad} {s : Tx} {j : Nat} (h : (s.drop j).head? ≠ some 62) : gtS (some (a, s.drop j)) = none := by
  cases e : s.drop j with
  | nil => rfl
  | cons c r => rw [e] at h; simp at h; simp [gtS, h]
theorem gt_yes {a : Ad} {r : Tx} : gtS (some (a, 62 :: r)) = some (a, r) := by simp [gtS]
theorem addr_bare {s : Tx} {j j1 j2 : Nat} {first : Bool} (hsk : s.drop j1 = skipS (s.drop j)) (h1 : (s.drop j1).head? ≠ some 34) (h2 : (s.drop j1).head? ≠ some 60) (hr : s.drop j2 = offS (s.drop j1)) (hf : first = true) (h : (s.drop j2).head? = some 64) : addrS first (s.drop j) = bareS (runS (s.drop j1)) (s.drop j2) := by
  rw [addrS_x (by rw [← hsk]; exact h1) (by rw [← hsk]; exact h2), ← hsk, ← hr, if_pos ⟨hf, h⟩]
theorem addr_word {s : Tx} {j j1 j2 : Nat} {first : Bool} (hsk : s.drop j1 = skipS (s.drop j)) (h1 : (s.drop j1).head? ≠ some 34) (h2 : (s.drop j1).head? ≠ some 60) (hr : s.drop j2 = offS (s.drop j1)) (h : ¬ (first = true ∧ (s.drop j2).head? = some 64)) : addrS first (s.drop j) = if runS (s.drop j1) = [] then none else addrS false (s.drop j2) := by
  rw [addrS_x (by rw [← hsk]; exact h1) (by rw [← hsk]; exact h2), ← hsk, ← hr, if_neg h]
theorem run_lt {s : Tx} {j1 j2 : Nat} (hr : s.drop j2 = offS (s.drop j1)) (h : runS (s.drop j1) ≠ []) (hj : j2 ≤ s.length) : j1 < j2 := by
  have := off_lt _ h
  rw [← hr] at this
  simp at this
  omega
theorem icast (n : Nat) : (n : Int) + 1 = ((n + 1 : Nat) : Int) := rfl
attribute [local go_sem] qob icast in
set_option maxRecDepth 4000 in
set_option maxHeartbeats 1000000 in
theorem qbare_c (T : Tbl) (hL : LibT T) (b : Nat) (s : Tx) (i : Nat) (F : List (Nat × Ob)) (L : List Nat) (hi : i ≤ s.length) (hs : s.length ≤ 4096) (l : Tx) (hl : l.length ≤ 4096) : AC Tryz.prog T 263 [.ptr b 2 0 0, .d (.str l)] (⟨qob b s i :: F, L⟩) (fun x h => (bareS l (s.drop i) = none ∧ x = .pan errV ∧ ∃ j, h = ⟨qob b s j :: F, L⟩) ∨ ∃ j a, i ≤ j ∧ j ≤ s.length ∧ bareS l (s.drop i) = some (a, s.drop j) ∧ x = .ret (.agg [.d (.str a.1), .d (.str a.2)]) ∧ h = ⟨qob b s j :: F, L⟩) := by
 refine ⟨Tryz.call263, ACalls.enterS Tryz.func263 rfl Tryz.ntmps263 rfl fun hb => ?_⟩
 simp only [go_sem, Tryz.results263]
 refine Zx ?_
 try simp only [go_sem]
 (repeat (with_reducible refine And.intro ZS ?_))
 intro b4
 first | intro fb4 | have fb4 := True.intro
 try simp only [freshL, qob] at fb4
 try simp only [go_sem, fb4]
 (repeat (with_reducible refine And.intro ZS ?_))
 refine Zx ?_
 try simp only [go_sem, fb4]
 (repeat (with_reducible refine And.intro ZS ?_))
 refine DW.acp [b] [] rfl rfl rfl rfl (by (try simp only [go_sem, fb4]); rfl) rfl (next_c T b s i _ _ (by omega) hs) ?_
 rintro _ _ ⟨rfl, rfl⟩
 try simp only [go_sem, fb4]
 (repeat (with_reducible refine And.intro ZS ?_))
 refine DW.acp [] [] rfl rfl rfl rfl (by (try simp only [go_sem, fb4]); rfl) rfl (must_c T _ _) ?_
 rintro _ _ (⟨hm1, rfl, rfl⟩ | ⟨hm1, rfl, rfl⟩)
 ·
  intro _
  refine endW_p [b4] [] [b] [] ?_
  simp only [decide_eq_true_eq, decide_eq_false_iff_not, Bool.not_eq_true', Bool.not_eq_false', Bool.and_eq_true, Bool.or_eq_true, Bool.and_eq_false_iff, Bool.or_eq_false_iff, Int.not_lt, Int.not_le, beq_iff_eq, beq_eq_false_iff_ne, ne_eq, Bool.not_eq_true, Bool.not_eq_false] at hm1
  exact .inl ⟨bare_no (fun h => absurd h (head_no (c := 64) rfl hm1)), rfl, i, by simp only [go_sem, fb4]⟩
 simp only [decide_eq_true_eq, decide_eq_false_iff_not, Bool.not_eq_true', Bool.not_eq_false', Bool.and_eq_true, Bool.or_eq_true, Bool.and_eq_false_iff, Bool.or_eq_false_iff, Int.not_lt, Int.not_le, beq_iff_eq, beq_eq_false_iff_ne, ne_eq, Bool.not_eq_true, Bool.not_eq_false] at hm1
 obtain ⟨hj, hd⟩ := head_is 64 rfl (by decide) hm1
 try simp only [go_sem, fb4]
 (repeat (with_reducible refine And.intro ZS ?_))
 refine Zm 7 ?_
 refine Zp 7 ?_
 refine Zx ?_
 try simp only [go_sem, fb4]
 (repeat (with_reducible refine And.intro ZS ?_))
 refine DW.acp [b] [] rfl rfl rfl rfl (by (try simp only [go_sem, fb4]); rfl) rfl (run_c T b s (i + 1) _ _ (by omega) hs) ?_
 rintro _ _ ⟨I2, hI2a, hI2b, hI2c, rfl, rfl⟩
 try simp only [go_sem, fb4]
 (repeat (with_reducible refine And.intro ZS ?_))
 intro b5
 first | intro fb5 | have fb5 := True.intro
 try simp only [freshL, qob] at fb5
 try simp only [go_sem, fb4, fb5]
 (repeat (with_reducible refine And.intro ZS ?_))
 refine Zm 12 ?_
 refine Zx ?_
 try simp only [go_sem, fb4, fb5]
 (repeat (with_reducible refine And.intro ZS ?_))
 refine DW.pcr rfl rfl rfl rfl (whoCheck_p T hL _ _ (by omega) (by have := run_len s (i + 1); omega)) rfl rfl ?_
 try simp only [go_sem, fb4, fb5]
 (repeat (with_reducible refine And.intro ZS ?_))
 refine DW.acp [] [] rfl rfl rfl rfl (by (try simp only [go_sem, fb4, fb5]); rfl) rfl (must_c T _ _) ?_
 rintro _ _ (⟨hm3, rfl, rfl⟩ | ⟨hm3, rfl, rfl⟩)
 ·
  intro _
  refine endW_p [b4, b5] [] [b] [] ?_
  simp only [decide_eq_true_eq, decide_eq_false_iff_not, Bool.not_eq_true', Bool.not_eq_false', Bool.and_eq_true, Bool.or_eq_true, Bool.and_eq_false_iff, Bool.or_eq_false_iff, Int.not_lt, Int.not_le, beq_iff_eq, beq_eq_false_iff_ne, ne_eq, Bool.not_eq_true, Bool.not_eq_false] at hm3
  exact .inl ⟨bare_no (fun _ h => hm3 h), rfl, I2, by simp only [go_sem, fb4, fb5]⟩
 simp only [decide_eq_true_eq, decide_eq_false_iff_not, Bool.not_eq_true', Bool.not_eq_false', Bool.and_eq_true, Bool.or_eq_true, Bool.and_eq_false_iff, Bool.or_eq_false_iff, Int.not_lt, Int.not_le, beq_iff_eq, beq_eq_false_iff_ne, ne_eq, Bool.not_eq_true, Bool.not_eq_false] at hm3
 have hA := hm3
 try simp only [go_sem, fb4, fb5]
 (repeat (with_reducible refine And.intro ZS ?_))
 refine Zm 3 ?_
 refine Zp 1 ?_
 refine AWp.ret ?_
 try simp only [thenQ, blkQ]
 apply endW_r [b4, b5] [] [b] [] (by (try simp only [go_sem, fb4, fb5]); rfl)
 · refine .inr ⟨I2, (l, runS (s.drop (i + 1))), by omega, by omega, ?_, rfl, ?_⟩
   · rw [hI2c]; exact bare_at hd hA
   · simp only [go_sem, fb4, fb5]
 · simp only [LeA, LeL, LeD, and_self]
attribute [local go_sem] qob icast in
set_option maxRecDepth 4000 in
set_option maxHeartbeats 1000000 in
theorem address_c (T : Tbl) (hL : LibT T) (b : Nat) (s : Tx) (i : Nat) (F : List (Nat × Ob)) (L : List Nat) (hi : i ≤ s.length) (hs : s.length ≤ 4096) : AC Tryz.prog T 219 [.ptr b 2 0 0] (⟨qob b s i :: F, L⟩) (fun x h => (addrS true (s.drop i) = none ∧ x = .pan errV ∧ ∃ j, h = ⟨qob b s j :: F, L⟩) ∨ ∃ j a, i ≤ j ∧ j ≤ s.length ∧ addrS true (s.drop i) = some (a, s.drop j) ∧ x = .ret (.agg [.d (.str a.1), .d (.str a.2)]) ∧ h = ⟨qob b s j :: F, L⟩) := by
 refine ⟨Tryz.call219, ACalls.enterS Tryz.func219 rfl Tryz.ntmps219 rfl fun hb => ?_⟩
 simp only [go_sem, Tryz.results219]
 refine Zx ?_
 try simp only [go_sem]
 (repeat (with_reducible refine And.intro ZS ?_))
 intro b2
 first | intro fb2 | have fb2 := True.intro
 try simp only [freshL, qob] at fb2
 try simp only [go_sem, fb2]
 (repeat (with_reducible refine And.intro ZS ?_))
 refine Zp 7 ?_
 refine AWp.block ?_
 simp only [go_sem]
 refine Zl 3 4 (fun n lc hc => ∃ (j w : Nat), n = s.length - j ∧ EqS lc [(3, .d (.int .i64 w))] ∧ EqS hc (⟨[(b2, ⟨2, 1, [[.d (.str []), .d (.str [])]]⟩), qob b s j] ++ F, L⟩) ∧ (i ≤ j) ∧ (j ≤ s.length) ∧ (w ≤ j) ∧ (addrS (decide (w = 0)) (s.drop j) = addrS true (s.drop i))) ?_ ?_
 · refine ⟨_, i, 0, rfl, ZE, ZE, ?_, ?_, ?_, ?_⟩
   all_goals (first | omega | rfl)
 rintro _ _ _ ⟨j, w, rfl, ⟨rfl⟩, ⟨rfl⟩, h1, h2, h3, h4⟩
 simp only [go_sem]
 refine Zs ?_
 refine AWp.block ?_
 refine Zx ?_
 try simp only [go_sem, fb2]
 (repeat (with_reducible refine And.intro ZS ?_))
 refine DW.acp [b] [] rfl rfl rfl rfl (by (try simp only [go_sem, fb2]); rfl) rfl (skip_c T b s j _ _ (by omega) hs) ?_
 rintro _ _ ⟨I1, hI1a, hI1b, hI1c, rfl, rfl⟩
 try simp only [go_sem, fb2]
 (repeat (with_reducible refine And.intro ZS ?_))
 have hsk := hI1c
 refine Zx ?_
 try simp only [go_sem, fb2]
 (repeat (with_reducible refine And.intro ZS ?_))
 refine DW.acp [b] [] rfl rfl rfl rfl (by (try simp only [go_sem, fb2]); rfl) rfl (next_c T b s I1 _ _ (by omega) hs) ?_
 rintro _ _ ⟨rfl, rfl⟩
 try simp only [go_sem, fb2]
 (repeat (with_reducible refine And.intro ZS ?_))
 refine AWp.block ?_
 refine Zp 199 ?_
 refine Zc (fun hc0 => ?_) fun hc0 => ?_
 ·
  obtain ⟨hj, hd⟩ := head_is 34 rfl (by decide) hc0
  have hq := fun first => addrS_34 (first := first) (s := s.drop j) (r := s.drop (I1 + 1)) (by rw [← hsk, hd])
  refine Zq fun K_ k_ => ?_
  try simp only [go_sem, fb2]
  (repeat (with_reducible refine And.intro ZS ?_))
  refine DW.acp [b] [] rfl rfl rfl rfl (by (try simp only [go_sem, fb2]); rfl) rfl (quoted_c T b s I1 _ _ (by omega) hs) ?_
  rintro _ _ (⟨hI2q, rfl, yI2, rfl⟩ | ⟨I2, hI2a, hI2b, hI2q, rfl, rfl⟩)
  ·
   intro _
   try simp only [thenQ, blkQ]
   refine endW_p [b2] [] [b] [] ?_
   exact .inl ⟨by rw [← h4, hq, hI2q], rfl, yI2, by simp only [go_sem, fb2]⟩
  have hst : addrS (decide (w = 0)) (s.drop j) = addrS false (s.drop I2) := by rw [hq, hI2q]
  try simp only [go_sem, fb2]
  (repeat (with_reducible refine And.intro ZS ?_))
  refine k_ _ _ (blkQ_n (blkQ_n (thenQ_n ?_)))
  refine Zm 7 ?_
  refine Zr (thenQ_n ?_)
  refine Ze 3 4 [] [] [b2, b] [] (.e ⟨_, ZM, I2, w + 1, rfl, ZE, ZE, ?_, ?_, ?_, ?_⟩)
  · omega
  · omega
  · omega
  · rw [show decide (w + 1 = 0) = false by simp, ← h4]; exact hst.symm
 have hn34 := head_no (c := 34) rfl hc0
 refine Zp 39 ?_
 refine Zc (fun hc1 => ?_) fun hc1 => ?_
 ·
  obtain ⟨hj, hd⟩ := head_is 60 rfl (by decide) hc1
  have hq := fun first => addrS_60 (first := first) (s := s.drop j) (r := s.drop (I1 + 1)) (by rw [← hsk, hd])
  refine Zp 3 ?_
  refine Zx ?_
  try simp only [go_sem, fb2]
  (repeat (with_reducible refine And.intro ZS ?_))
  refine DW.acp [b] [] rfl rfl rfl rfl (by (try simp only [go_sem, fb2]); rfl) rfl (run_c T b s (I1 + 1) _ _ (by omega) hs) ?_
  rintro _ _ ⟨I3, hI3a, hI3b, hI3c, rfl, rfl⟩
  try simp only [go_sem, fb2]
  (repeat (with_reducible refine And.intro ZS ?_))
  refine DW.acp [b] [] rfl rfl rfl rfl (by (try simp only [go_sem, fb2]); rfl) rfl (qbare_c T hL b s I3 _ _ (by omega) hs _ (by have := run_len s (I1 + 1); omega)) ?_
  rintro _ _ (⟨hI4q, rfl, yI4, rfl⟩ | ⟨I4, aI4, hI4a, hI4b, hI4q, rfl, rfl⟩)
  ·
   intro _
   try simp only [thenQ, blkQ]
   refine endW_p [b2] [] [b] [] ?_
   exact .inl ⟨by rw [← h4, hq, ← hI3c, hI4q]; rfl, rfl, yI4, by simp only [go_sem, fb2]⟩
  have hbq := hI4q
  rw [hI3c] at hbq
  try simp only [go_sem, fb2]
  (repeat (with_reducible refine And.intro ZS ?_))
  intro b4
  first | intro fb4 | have fb4 := True.intro
  try simp only [freshL, qob] at fb4
  try simp only [go_sem, fb2, fb4]
  (repeat (with_reducible refine And.intro ZS ?_))
  refine Zm 7 ?_
  refine Zx ?_
  try simp only [go_sem, fb2, fb4]
  (repeat (with_reducible refine And.intro ZS ?_))
  refine DW.acp [b] [] rfl rfl rfl rfl (by (try simp only [go_sem, fb2, fb4]); rfl) rfl (next_c T b s I4 _ _ (by omega) hs) ?_
  rintro _ _ ⟨rfl, rfl⟩
  try simp only [go_sem, fb2, fb4]
  (repeat (with_reducible refine And.intro ZS ?_))
  refine DW.acp [] [] rfl rfl rfl rfl (by (try simp only [go_sem, fb2, fb4]); rfl) rfl (must_c T _ _) ?_
  rintro _ _ (⟨hm5, rfl, rfl⟩ | ⟨hm5, rfl, rfl⟩)
  ·
   intro _
   try simp only [thenQ, blkQ]
   refine endW_p [b2, b4] [] [b] [] ?_
   simp only [decide_eq_true_eq, decide_eq_false_iff_not, Bool.not_eq_true', Bool.not_eq_false', Bool.and_eq_true, Bool.or_eq_true, Bool.and_eq_false_iff, Bool.or_eq_false_iff, Int.not_lt, Int.not_le, beq_iff_eq, beq_eq_false_iff_ne, ne_eq, Bool.not_eq_true, Bool.not_eq_false] at hm5
   exact .inl ⟨by rw [← h4, hq, hbq, gt_no (head_no (c := 62) rfl hm5)], rfl, I4, by simp only [go_sem, fb2, fb4]⟩
  simp only [decide_eq_true_eq, decide_eq_false_iff_not, Bool.not_eq_true', Bool.not_eq_false', Bool.and_eq_true, Bool.or_eq_true, Bool.and_eq_false_iff, Bool.or_eq_false_iff, Int.not_lt, Int.not_le, beq_iff_eq, beq_eq_false_iff_ne, ne_eq, Bool.not_eq_true, Bool.not_eq_false] at hm5
  obtain ⟨hj2, hd2⟩ := head_is 62 rfl (by decide) hm5
  try simp only [go_sem, fb2, fb4]
  (repeat (with_reducible refine And.intro ZS ?_))
  refine Zm 7 ?_
  refine Zp 6 ?_
  refine Zp 1 ?_
  refine AWp.ret ?_
  try simp only [thenQ, blkQ]
  apply endW_r [b2, b4] [] [b] [] (by (try simp only [go_sem, fb2, fb4]); rfl)
  · refine .inr ⟨I4 + 1, aI4, by omega, by omega, ?_, rfl, ?_⟩
    · rw [← h4, hq, hbq, hd2, gt_yes]
    · simp only [go_sem, fb2, fb4]
  · simp only [LeA, LeL, LeD, and_self]
 have hn60 := head_no (c := 60) rfl hc1
 refine Zx ?_
 try simp only [go_sem, fb2]
 (repeat (with_reducible refine And.intro ZS ?_))
 refine DW.acp [b] [] rfl rfl rfl rfl (by (try simp only [go_sem, fb2]); rfl) rfl (run_c T b s I1 _ _ (by omega) hs) ?_
 rintro _ _ ⟨I6, hI6a, hI6b, hI6c, rfl, rfl⟩
 try simp only [go_sem, fb2]
 (repeat (with_reducible refine And.intro ZS ?_))
 have hrn := hI6c
 refine Zs ?_
 refine Zx ?_
 try simp only [go_sem, fb2]
 (repeat (with_reducible refine And.intro ZS ?_))
 refine DW.acp [b] [] rfl rfl rfl rfl (by (try simp only [go_sem, fb2]); rfl) rfl (next_c T b s I6 _ _ (by omega) hs) ?_
 rintro _ _ ⟨rfl, rfl⟩
 try simp only [go_sem, fb2]
 (repeat (with_reducible refine And.intro ZS ?_))
 refine Zm 4111 ?_
 refine Zc (fun hc2 => ?_) fun hc2 => ?_
 ·
  obtain ⟨hj2, hd2⟩ := head_is 64 rfl (by decide) hc2.1
  have hst := addr_bare (first := decide (w = 0)) hsk hn34 hn60 hrn (by simpa using hc2.2) (by rw [hd2]; rfl)
  refine Zx ?_
  try simp only [go_sem, fb2]
  (repeat (with_reducible refine And.intro ZS ?_))
  refine DW.acp [b] [] rfl rfl rfl rfl (by (try simp only [go_sem, fb2]); rfl) rfl (qbare_c T hL b s I6 _ _ (by omega) hs _ (by have := run_len s I1; omega)) ?_
  rintro _ _ (⟨hI7q, rfl, yI7, rfl⟩ | ⟨I7, aI7, hI7a, hI7b, hI7q, rfl, rfl⟩)
  ·
   intro _
   try simp only [thenQ, blkQ]
   refine endW_p [b2] [] [b] [] ?_
   exact .inl ⟨by rw [← h4, hst, hI7q], rfl, yI7, by simp only [go_sem, fb2]⟩
  try simp only [go_sem, fb2]
  (repeat (with_reducible refine And.intro ZS ?_))
  refine Zm 2 ?_
  refine AWp.ret ?_
  try simp only [thenQ, blkQ]
  apply endW_r [b2] [] [b] [] (by (try simp only [go_sem, fb2]); rfl)
  · refine .inr ⟨I7, aI7, by omega, by omega, ?_, rfl, ?_⟩
    · rw [← h4, hst, hI7q]
    · simp only [go_sem, fb2]
  · simp only [LeA, LeL, LeD, and_self]
 have hst0 := addr_word (first := decide (w = 0)) hsk hn34 hn60 hrn (fun h => by
   rcases hc2 with hc2 | hc2
   · exact head_no (c := 64) rfl (by simpa using hc2) h.2
   · have := h.1; simp at this; omega)
 refine Zk ?_
 refine Zq fun K_ k_ => ?_
 try simp only [go_sem, fb2]
 (repeat (with_reducible refine And.intro ZS ?_))
 refine DW.acp [] [] rfl rfl rfl rfl (by (try simp only [go_sem, fb2]); rfl) rfl (must_c T _ _) ?_
 rintro _ _ (⟨hm8, rfl, rfl⟩ | ⟨hm8, rfl, rfl⟩)
 ·
  intro _
  try simp only [thenQ, blkQ]
  refine endW_p [b2] [] [b] [] ?_
  simp only [decide_eq_true_eq, decide_eq_false_iff_not, Bool.not_eq_true', Bool.not_eq_false', Bool.and_eq_true, Bool.or_eq_true, Bool.and_eq_false_iff, Bool.or_eq_false_iff, Int.not_lt, Int.not_le, beq_iff_eq, beq_eq_false_iff_ne, ne_eq, Bool.not_eq_true, Bool.not_eq_false] at hm8
  exact .inl ⟨by rw [← h4, hst0, if_pos hm8], rfl, I6, by simp only [go_sem, fb2]⟩
 simp only [decide_eq_true_eq, decide_eq_false_iff_not, Bool.not_eq_true', Bool.not_eq_false', Bool.and_eq_true, Bool.or_eq_true, Bool.and_eq_false_iff, Bool.or_eq_false_iff, Int.not_lt, Int.not_le, beq_iff_eq, beq_eq_false_iff_ne, ne_eq, Bool.not_eq_true, Bool.not_eq_false] at hm8
 have hlt := run_lt hrn hm8 (by omega)
 have hst := hst0.trans (if_neg hm8)
 try simp only [go_sem, fb2]
 (repeat (with_reducible refine And.intro ZS ?_))
 refine k_ _ _ (blkQ_n (blkQ_n (thenQ_n ?_)))
 refine Zm 7 ?_
 refine Zr (thenQ_n ?_)
 refine Ze 3 4 [] [] [b2, b] [] (.e ⟨_, ZM, I6, w + 1, rfl, ZE, ZE, ?_, ?_, ?_, ?_⟩)
 · omega
 · omega
 · omega
 · rw [show decide (w + 1 = 0) = false by simp, ← h4]; exact hst.symm
end Go.Proofs.YtidldcfpmehpiaaGreatDoor

namespace Go.Proofs.YtidldcfpmehpiaaGreatDoor
set_option linter.unusedSimpArgs false
set_option linter.unusedVariables false
/-- an entry of a book -/
structure Ent where
  kind : Int
  box : Tx
  uid : Int
  flags : Int
  dest : Tx
  text : Tx
def entA (x : Ent) : List AV := [.d (.int .i64 x.kind), .d (.str x.box), .d (.int .i64 x.uid), .d (.int .i64 x.flags), .d (.str x.dest), .d (.str x.text)]
attribute [go_sem] entA
def nmC (c : UInt8) : Bool := decide (33 ≤ (c.toNat : Int)) && decide ((c.toNat : Int) ≤ 126)
/-- may a box be named so? -/
def nameE (s : Tx) : Int := if s.length < 1 ∨ 12 < s.length then 1 else if s.all nmC = true then 0 else 3
@[go_sem] theorem wrap8 (c : UInt8) : IntKind.i64.wrap (c.toNat : Int) = c.toNat := inR_wrap (by have := c.toNat_lt; simp only [inR]; omega)
theorem nameE_1 {s : Tx} (h : s.length < 1 ∨ 12 < s.length) : nameE s = 1 := if_pos h
theorem nameE_3 {s : Tx} (h : ¬ (s.length < 1 ∨ 12 < s.length)) {i : Nat} (hi : i < s.length) (hc : nmC (s.getD i 0) = false) : nameE s = 3 := by
  unfold nameE
  rw [if_neg h, if_neg]
  intro ha
  have := List.all_eq_true.1 ha (s.getD i 0) (by simp [List.getD, hi])
  rw [hc] at this; cases this
theorem all_step {s : Tx} {i : Nat} (hi : i < s.length) (hc : nmC (s.getD i 0) = true) (h : (s.drop i).all nmC = true → s.all nmC = true) : (s.drop (i + 1)).all nmC = true → s.all nmC = true := fun h2 => h (by rw [drop_cons hi, List.all_cons, hc, h2]; rfl)
theorem nameE_end {s : Tx} (h : ¬ (s.length < 1 ∨ 12 < s.length)) {i : Nat} (hi : s.length ≤ i) (ha : (s.drop i).all nmC = true → s.all nmC = true) : nameE s = 0 := by
  unfold nameE
  rw [if_neg h, if_pos (ha (by rw [drop_none hi]; rfl))]
set_option maxRecDepth 4000 in
set_option maxHeartbeats 1000000 in
theorem In_c (T : Tbl) (n lo hi : Int) : PC Tryz.prog T 98 [.d (.int .i64 n), .d (.int .i64 lo), .d (.int .i64 hi)] (.d (.bool (decide (lo ≤ n) && decide (n ≤ hi)))) := by
 refine ⟨Tryz.call98, PCall.enterS Tryz.func98 rfl Tryz.ntmps98 rfl fun hb => ?_⟩
 simp only [go_sem, Tryz.results98]
 refine Zp 7 ?_
 refine Zp 8 ?_
 refine AWp.ret ?_
 try simp only [go_sem]
 try simp [LeA, LeD]
attribute [local go_sem] icast in
set_option maxRecDepth 4000 in
set_option maxHeartbeats 1000000 in
theorem Name_c (T : Tbl) (s : Tx) (hb0 : s.length ≤ 9223372036854775807) : PC Tryz.prog T 148 [.d (.str s)] (.d (.int .i64 (nameE s))) := by
 refine ⟨Tryz.call148, PCall.enterS Tryz.func148 rfl Tryz.ntmps148 rfl fun hb => ?_⟩
 simp only [go_sem, Tryz.results148]
 refine Zp 1 ?_
 refine Zs ?_
 refine Zp 257 ?_
 refine Zc (fun hc0 => ?_) fun hc0 => ?_
 ·
  refine Zp 2 ?_
  refine AWp.ret ?_
  try simp only [go_sem]
  rw [nameE_1 (by omega)]; try simp [LeA, LeD]
 refine Zk ?_
 refine Zs ?_
 refine Zp 25 ?_
 refine AWp.block ?_
 simp only [go_sem]
 refine Zl 3 4 (fun n lc hc => ∃ (i : Nat), n = s.length - i ∧ EqS lc [(14, .d (.int .i64 i))] ∧ EqS hc (⟨[], []⟩) ∧ (i ≤ s.length) ∧ ((s.drop i).all nmC = true → s.all nmC = true)) ?_ ?_
 · refine ⟨_, 0, rfl, ZE, ZE, ?_, ?_⟩
   all_goals (first | omega | (simp; done))
 rintro _ _ _ ⟨i, rfl, ⟨rfl⟩, ⟨rfl⟩, h1, h2⟩
 simp only [go_sem]
 refine Zp 15 ?_
 refine Zs ?_
 refine Zc (fun hc1 => ?_) fun hc1 => ?_
 ·
  have hlt : i < s.length := by omega
  refine Zk ?_
  refine Zs ?_
  refine AWp.block ?_
  refine Zp 15 ?_
  refine Zp 8205 ?_
  refine Zc (fun hc2 => ?_) fun hc2 => ?_
  ·
   have hcc : nmC (s.getD i 0) = false := by
     unfold nmC
     simp only [Bool.and_eq_false_iff, decide_eq_false_iff_not]
     omega
   refine Zp 2 ?_
   refine AWp.ret ?_
   try simp only [go_sem]
   rw [nameE_3 (by omega) hlt hcc]; try simp [LeA, LeD]
  have hcc : nmC (s.getD i 0) = true := by
    unfold nmC
    simp only [Bool.and_eq_true, decide_eq_true_eq]
    omega
  refine AWp.skip (blkQ_n (thenQ_n ?_))
  refine Zr (thenQ_n ?_)
  refine Zf 3 4 (.e ⟨_, ZM, i + 1, rfl, ZE, ZE, ?_, ?_⟩)
  · omega
  · exact all_step (by omega) hcc h2
 refine AWp.exit (thenQ_e (thenQ_e (blkQ_e (thenQ_n ?_))))
 refine Zm 0 ?_
 refine Zp 1 ?_
 refine AWp.ret ?_
 try simp only [go_sem]
 rw [nameE_end (by omega) (by omega) h2]; try simp [LeA, LeD]
attribute [local go_sem] icast in
set_option maxRecDepth 4000 in
set_option maxHeartbeats 1000000 in
theorem BoxName_c (T : Tbl) (s : Tx) (hb0 : s.length ≤ 9223372036854775807) : PC Tryz.prog T 96 [.d (.str s)] (.d (.int .i64 (nameE s))) := by
 refine ⟨Tryz.call96, PCall.enterS Tryz.func96 rfl Tryz.ntmps96 rfl fun hb => ?_⟩
 simp only [go_sem, Tryz.results96]
 refine Zp 1 ?_
 refine Zs ?_
 refine Zx ?_
 try simp only [go_sem]
 (repeat (with_reducible refine And.intro ZS ?_))
 refine DW.pcr rfl rfl rfl rfl (In_c T _ _ _) rfl rfl ?_
 try simp only [go_sem]
 (repeat (with_reducible refine And.intro ZS ?_))
 refine Zc (fun hc0 => ?_) fun hc0 => ?_
 ·
  refine Zp 2 ?_
  refine AWp.ret ?_
  try simp only [go_sem]
  rw [nameE_1 (by omega)]; try simp [LeA, LeD]
 refine Zk ?_
 refine Zm 1 ?_
 refine Zs ?_
 refine Zp 3 ?_
 refine AWp.block ?_
 simp only [go_sem]
 refine Zl 1 2 (fun n lc hc => ∃ (i : Nat), n = s.length - i ∧ EqS lc [(3, .d (.int .i64 i))] ∧ EqS hc (⟨[], []⟩) ∧ (i ≤ s.length) ∧ ((s.drop i).all nmC = true → s.all nmC = true)) ?_ ?_
 · refine ⟨_, 0, rfl, ZE, ZE, ?_, ?_⟩
   all_goals (first | omega | (simp; done))
 rintro _ _ _ ⟨i, rfl, ⟨rfl⟩, ⟨rfl⟩, h1, h2⟩
 simp only [go_sem]
 refine Zs ?_
 refine Zp 35 ?_
 refine Zc (fun hc1 => ?_) fun hc1 => ?_
 ·
  have hlt : i < s.length := by omega
  refine Zk ?_
  refine Zs ?_
  refine AWp.block ?_
  refine Zx ?_
  try simp only [go_sem]
  (repeat (with_reducible refine And.intro ZS ?_))
  refine DW.pcr rfl rfl rfl rfl (In_c T _ _ _) rfl rfl ?_
  try simp only [go_sem]
  (repeat (with_reducible refine And.intro ZS ?_))
  refine Zm 259 ?_
  refine Zc (fun hc2 => ?_) fun hc2 => ?_
  ·
   have hcc : nmC (s.getD i 0) = false := by
     unfold nmC
     simp only [Bool.and_eq_false_iff, decide_eq_false_iff_not]
     omega
   refine Zp 2 ?_
   refine AWp.ret ?_
   try simp only [go_sem]
   rw [nameE_3 (by omega) hlt hcc]; try simp [LeA, LeD]
  have hcc : nmC (s.getD i 0) = true := by
    unfold nmC
    simp only [Bool.and_eq_true, decide_eq_true_eq]
    omega
  refine AWp.skip (blkQ_n (thenQ_n ?_))
  refine Zr (thenQ_n ?_)
  refine Zf 1 2 (.e ⟨_, ZM, i + 1, rfl, ZE, ZE, ?_, ?_⟩)
  · omega
  · exact all_step (by omega) hcc h2
 refine AWp.exit (thenQ_e (thenQ_e (blkQ_e (thenQ_n ?_))))
 refine Zp 2 ?_
 refine AWp.ret ?_
 try simp only [go_sem]
 rw [nameE_end (by omega) (by omega) h2]; try simp [LeA, LeD]
end Go.Proofs.YtidldcfpmehpiaaGreatDoor

namespace Go.Proofs.YtidldcfpmehpiaaGreatDoor
set_option linter.unusedSimpArgs false
set_option linter.unusedVariables false
def flagT : List (List UInt8) := [[92, 83, 101, 101, 110], [92, 65, 110, 115, 119, 101, 114, 101, 100], [92, 70, 108, 97, 103, 103, 101, 100], [92, 68, 101, 108, 101, 116, 101, 100], [92, 68, 114, 97, 102, 116]]
/-- the error of flags -/
def flE : List (List UInt8) → Int
  | [] => 0
  | s :: l => if s ∈ flagT then flE l else 7
theorem flE_t {l : List (List UInt8)} {k : Nat} (h : k < l.length) (hc : ¬ l[k] ∈ flagT) : flE (l.drop k) = 7 := by rw [List.drop_eq_getElem_cons h, flE, if_neg hc]
theorem flE_f {l : List (List UInt8)} {k : Nat} (h : k < l.length) (hc : l[k] ∈ flagT) : flE (l.drop k) = flE (l.drop (k + 1)) := by rw [List.drop_eq_getElem_cons h, flE, if_pos hc]
theorem flE_e {l : List (List UInt8)} {k : Nat} (h : l.length ≤ k) : flE (l.drop k) = 0 := by rw [List.drop_eq_nil_of_le h]; rfl
theorem mapS1 (l : List (List UInt8)) : (l.map D.str).map (fun x => [x]) = l.map strD := by rw [List.map_map]; rfl
theorem ixG_lt {α : Type} [DecidableEq α] : ∀ (l : List α) (t : α), ixG l t < l.length
  | [], _ => by simp [ixG]
  | x :: r, t => by have := ixG_lt r t; unfold ixG; rw [List.length_cons]; split; omega; split <;> omega
theorem pw_ok : ∀ j : Nat, j < 5 → 1 ≤ (2 : Int) ^ j ∧ (2 : Int) ^ j ≤ 16 := by decide
attribute [local go_sem] icast8 strD in
set_option maxRecDepth 4000 in
set_option maxHeartbeats 1000000 in
theorem jFlags_c (T : Tbl) (hF : T 2 = flagT.map D.str) (l : List (List UInt8)) (hl : l.length ≤ 1048576) : PC Tryz.prog T 143 [.d (.slc 1 (l.map strD))] (.tup [.any, .d (.int .i64 (flE l))]) := by
 refine ⟨Tryz.call143, PCall.enterS Tryz.func143 rfl Tryz.ntmps143 rfl fun hb => ?_⟩
 simp only [go_sem, Tryz.results143]
 refine Zp 1 ?_
 refine Zp 3 ?_
 refine Zs ?_
 refine Zp 30 ?_
 refine AWp.block ?_
 simp only [go_sem]
 refine Zl 6 9 (fun n lc hc => ∃ (k : Nat) (fv : Int), n = l.length - k ∧ EqS lc [(4, .d (.int .i64 fv)), (10, .d (.int .i64 (k : Nat)))] ∧ EqS hc (⟨[], []⟩) ∧ (k ≤ l.length) ∧ (flE l = flE (l.drop k))) ?_ ?_
 · refine ⟨_, 0, 0, rfl, ZE, ZE, ?_, ?_⟩
   all_goals (first | omega | rfl)
 rintro _ _ _ ⟨k, fv, rfl, ⟨rfl⟩, ⟨rfl⟩, h1, h2⟩
 simp only [go_sem]
 refine Zp 31 ?_
 refine Zs ?_
 refine Zc (fun hc0 => ?_) fun hc0 => ?_
 ·
  have hlt : k < l.length := by omega
  have hki : (k : Int) < (l.length : Int) := by omega
  have zf1 := fun d0_ => map_getD strD l k d0_ hlt
  refine Zk ?_
  refine Zs ?_
  refine AWp.block ?_
  refine Zp 31 ?_
  refine AWp.rsG 0 fun K_ hK_ => ?_
  simp only [List.take_succ_cons, List.take_zero, List.drop_succ_cons, List.drop_zero]
  try simp only [go_sem, zf1, hki]
  (repeat (with_reducible refine And.intro ZS ?_))
  refine LV.dw1 ?_
  refine DW.sliceG (n := 5) (e := 9) rfl rfl rfl (by first | rfl | kernel_rfl) (by first | rfl | kernel_rfl) (by rw [hF]; rfl) (by decide) (by decide) ?_
  refine DW.nil ?_
  rw [hF, mapS1]
  refine LV.lvc ?_
  try simp only [go_sem, zf1, hki]
  (repeat (with_reducible refine And.intro ZS ?_))
  refine DW.pcr rfl rfl rfl rfl (IndexT_c T flagT _ (by decide)) rfl rfl ?_
  try simp only [go_sem, zf1, hki]
  (repeat (with_reducible refine And.intro ZS ?_))
  refine hK_ _ _ ?_
  refine Zm 61 ?_
  refine Zs ?_
  refine Zp 95 ?_
  refine Zc (fun hc1 => ?_) fun hc1 => ?_
  ·
   have hm : ¬ l[k] ∈ flagT := fun h9 => by have := (ixG_mem flagT (l[k])).2 h9; omega
   refine Zp 3 ?_
   refine AWp.ret ?_
   try simp only [go_sem, zf1, hki]
   rw [h2, flE_t hlt hm]; try simp [LeA, LeL, LeD]
  have h0 : 0 ≤ ixG flagT (l[k]) := by omega
  have hm : l[k] ∈ flagT := (ixG_mem flagT (l[k])).1 h0
  have hix : ixG flagT (l[k]) < 5 := ixG_lt flagT (l[k])
  obtain ⟨pw, hpw, hp1, hp2⟩ : ∃ pw : Int, (1 : Int) * 2 ^ min (ixG flagT (l[k])).toNat 64 = pw ∧ 1 ≤ pw ∧ pw ≤ 16 := by
    have h5 := pw_ok (ixG flagT (l[k])).toNat (by omega)
    rw [show min (ixG flagT (l[k])).toNat 64 = (ixG flagT (l[k])).toNat by omega, Int.one_mul]
    exact ⟨_, rfl, h5.1, h5.2⟩
  refine Zk ?_
  refine Zr (blkQ_n (thenQ_n ?_))
  refine Zm 29 ?_
  refine Zr (thenQ_n ?_)
  refine Zf 6 9 (.e ⟨_, ZM, k + 1, (IntKind.i64.wrap (BitVec.ofInt 64 fv ||| BitVec.ofInt 64 pw).toNat), rfl, ZE, ZE, ?_, ?_⟩)
  · omega
  · rw [h2, flE_f hlt hm]
 refine AWp.exit (thenQ_e (thenQ_e (blkQ_e (thenQ_n ?_))))
 refine Zm 1 ?_
 refine Zp 3 ?_
 refine AWp.ret ?_
 try simp only [go_sem]
 rw [h2, flE_e (by omega)]; try simp [LeA, LeL, LeD]
end Go.Proofs.YtidldcfpmehpiaaGreatDoor

namespace Go.Proofs.YtidldcfpmehpiaaGreatDoor
set_option linter.unusedSimpArgs false
set_option linter.unusedVariables false
def flB (s : List UInt8) : Int := if s = [92, 83, 101, 101, 110] then 1 else if s = [92, 65, 110, 115, 119, 101, 114, 101, 100] then 2 else if s = [92, 70, 108, 97, 103, 103, 101, 100] then 4 else if s = [92, 68, 101, 108, 101, 116, 101, 100] then 8 else if s = [92, 68, 114, 97, 102, 116] then 16 else 0
theorem flB_0 (s : List UInt8) : flB s = 0 ↔ ¬ s ∈ flagT := by
  unfold flB flagT
  simp only [List.mem_cons, List.not_mem_nil, or_false]
  repeat' split
  all_goals (constructor <;> intro h <;> first | omega | (simp_all; done) | rfl)
theorem flE_7 : ∀ {l : List (List UInt8)} {k : Nat} (h : k < l.length), ¬ l[k] ∈ flagT → flE l = 7
  | s :: l, 0, h, hc => by
    have hc' : ¬ s ∈ flagT := by simpa using hc
    unfold flE; rw [if_neg hc']
  | s :: l, k + 1, h, hc => by
    unfold flE
    split
    · exact flE_7 (l := l) (k := k) (by simpa using h) (by simpa using hc)
    · rfl
theorem flE_0 : ∀ {l : List (List UInt8)}, (∀ s ∈ l, s ∈ flagT) → flE l = 0
  | [], _ => rfl
  | s :: l, h => by unfold flE; rw [if_pos (h s (List.mem_cons_self ..))]; exact flE_0 fun x hx => h x (List.mem_cons_of_mem _ hx)
def GoodI (l : List (List UInt8)) (k : Nat) : Prop := ∀ (j : Nat) (h : j < l.length), j < k → l[j] ∈ flagT
theorem GoodI.s {l : List (List UInt8)} {k : Nat} (h : k < l.length) (H : GoodI l k) (hc : l[k] ∈ flagT) : GoodI l (k + 1) := fun j hj hk => by
  rcases Nat.lt_or_ge j k with h9 | h9
  · exact H j hj h9
  · obtain rfl : j = k := by omega
    exact hc
theorem GoodI.e {l : List (List UInt8)} {k : Nat} (H : GoodI l k) (h : l.length ≤ k) : flE l = 0 := flE_0 fun s hs => by
  obtain ⟨i, h8, h7⟩ := List.mem_iff_getElem.1 hs
  exact h7 ▸ H i h8 (by omega)
set_option maxRecDepth 4000 in
set_option maxHeartbeats 1000000 in
theorem flagBit_c (T : Tbl) (s : List UInt8) : PC Tryz.prog T 145 [.d (.str s)] (.d (.int .i64 (flB s))) := by
 refine ⟨Tryz.call145, PCall.enterS Tryz.func145 rfl Tryz.ntmps145 rfl fun hb => ?_⟩
 simp only [go_sem, Tryz.results145]
 refine Zp 1 ?_
 refine Zs ?_
 refine Zp 2 ?_
 refine AWp.block ?_
 refine Zp 3 ?_
 refine Zc (fun hc0 => ?_) fun hc0 => ?_
 ·
  refine Zp 1 ?_
  refine AWp.ret ?_
  try simp only [go_sem]
  simp [LeA, LeD, flB, *]
 refine Zp 5 ?_
 refine Zc (fun hc1 => ?_) fun hc1 => ?_
 ·
  refine Zp 1 ?_
  refine AWp.ret ?_
  try simp only [go_sem]
  simp [LeA, LeD, flB, *]
 refine Zp 5 ?_
 refine Zc (fun hc2 => ?_) fun hc2 => ?_
 ·
  refine Zp 1 ?_
  refine AWp.ret ?_
  try simp only [go_sem]
  simp [LeA, LeD, flB, *]
 refine Zp 5 ?_
 refine Zc (fun hc3 => ?_) fun hc3 => ?_
 ·
  refine Zp 1 ?_
  refine AWp.ret ?_
  try simp only [go_sem]
  simp [LeA, LeD, flB, *]
 refine Zp 4 ?_
 refine Zc (fun hc4 => ?_) fun hc4 => ?_
 ·
  refine Zp 1 ?_
  refine AWp.ret ?_
  try simp only [go_sem]
  simp [LeA, LeD, flB, *]
 refine AWp.skip (blkQ_n (thenQ_n ?_))
 refine Zp 1 ?_
 refine AWp.ret ?_
 try simp only [go_sem]
 simp [LeA, LeD, flB, *]
attribute [local go_sem] icast8 strD in
set_option maxRecDepth 4000 in
set_option maxHeartbeats 1000000 in
theorem jFlagsOf_c (T : Tbl) (l : List (List UInt8)) (hl : l.length ≤ 1048576) : PC Tryz.prog T 80 [.d (.slc 1 (l.map strD))] (.tup [.any, .d (.int .i64 (flE l))]) := by
 refine ⟨Tryz.call80, PCall.enterS Tryz.func80 rfl Tryz.ntmps80 rfl fun hb => ?_⟩
 simp only [go_sem, Tryz.results80]
 refine Zp 1 ?_
 refine Zp 3 ?_
 refine Zs ?_
 refine Zp 7 ?_
 refine AWp.block ?_
 simp only [go_sem]
 refine Zl 1 6 (fun n lc hc => ∃ (bt fv : Int), n = (64 - bt).toNat ∧ EqS lc [(4, .d (.int .i64 fv)), (5, .d (.int .i64 bt))] ∧ EqS hc (⟨[], []⟩) ∧ (1 ≤ bt) ∧ (bt ≤ 32) ∧ (0 ≤ fv) ∧ (fv < bt)) ?_ ?_
 · refine ⟨_, 1, 0, rfl, ZE, ZE, ?_, ?_, ?_, ?_⟩
   all_goals (omega)
 rintro _ _ _ ⟨bt, fv, rfl, ⟨rfl⟩, ⟨rfl⟩, g1, g2, g3, g4⟩
 simp only [go_sem]
 refine Zs ?_
 refine Zp 23 ?_
 refine Zc (fun hc0 => ?_) fun hc0 => ?_
 ·
  refine Zk ?_
  refine Zs ?_
  refine AWp.block ?_
  refine Zp 15 ?_
  refine AWp.block ?_
  simp only [go_sem]
  refine Zl 5 10 (fun n lc hc => ∃ (k : Nat) (f2 : Int), n = l.length - k ∧ EqS lc [(4, .d (.int .i64 f2)), (6, .d (.int .i64 (k : Nat)))] ∧ EqS hc (⟨[], []⟩) ∧ (k ≤ l.length) ∧ (f2 = fv)) ?_ ?_
  · refine ⟨_, 0, fv, rfl, ZE, ZE, ?_, ?_⟩
    all_goals (first | omega | rfl)
  rintro _ _ _ ⟨k, f2, rfl, ⟨rfl⟩, ⟨rfl⟩, h1, h3⟩
  simp only [go_sem]
  refine Zs ?_
  refine Zp 143 ?_
  refine Zc (fun hc1 => ?_) fun hc1 => ?_
  ·
   have hlt : k < l.length := by omega
   have hki : (k : Int) < (l.length : Int) := by omega
   have zf1 := fun d0_ => map_getD strD l k d0_ hlt
   refine Zk ?_
   refine Zs ?_
   refine AWp.block ?_
   refine Zs ?_
   refine Zx ?_
   try simp only [go_sem, zf1, hki]
   (repeat (with_reducible refine And.intro ZS ?_))
   refine DW.pcr rfl rfl rfl rfl (flagBit_c T _) rfl rfl ?_
   try simp only [go_sem, zf1, hki]
   (repeat (with_reducible refine And.intro ZS ?_))
   refine Zm 1039 ?_
   refine Zc (fun hc2 => ?_) fun hc2 => ?_
   ·
    have hm := (flB_0 (l[k])).1 hc2
    refine Zp 6 ?_
    refine AWp.ret ?_
    try simp only [go_sem, zf1, hki]
    rw [flE_7 hlt hm]; try simp [LeA, LeL, LeD]
   refine Zk ?_
   refine Zx ?_
   try simp only [go_sem, zf1, hki]
   (repeat (with_reducible refine And.intro ZS ?_))
   refine DW.pcr rfl rfl rfl rfl (flagBit_c T _) rfl rfl ?_
   try simp only [go_sem, zf1, hki]
   (repeat (with_reducible refine And.intro ZS ?_))
   refine Zm 2063 ?_
   refine Zc (fun hc3 => ?_) fun hc3 => ?_
   ·
    refine Zp 7 ?_
    refine AWp.exit (blkQ_d (by decide) (thenQ_e (thenQ_e (blkQ_e (blkQ_n (thenQ_n ?_))))))
    refine Zr (thenQ_n ?_)
    refine Zf 1 6 (.e ⟨_, ?_, (bt * 2), (f2 + bt), rfl, ZE, ZE, ?_, ?_, ?_, ?_⟩)
    · first | omega | (simp; omega) | (omega)
    · omega
    · omega
    · omega
    · omega
   refine AWp.skip (blkQ_n (thenQ_n ?_))
   refine Zr (thenQ_n ?_)
   refine Zf 5 10 (.e ⟨_, ZM, k + 1, f2, rfl, ZE, ZE, ?_, ?_⟩)
   · omega
   · exact h3
  refine AWp.exit (thenQ_e (thenQ_e (blkQ_e (blkQ_n (thenQ_n ?_)))))
  refine Zr (thenQ_n ?_)
  refine Zf 1 6 (.e ⟨_, ?_, (bt * 2), f2, rfl, ZE, ZE, ?_, ?_, ?_, ?_⟩)
  · first | omega | (simp; omega) | (omega)
  · omega
  · omega
  · omega
  · omega
 refine AWp.exit (thenQ_e (thenQ_e (blkQ_e (thenQ_n ?_))))
 refine Zs ?_
 refine Zp 11 ?_
 refine AWp.block ?_
 simp only [go_sem]
 refine Zl 3 4 (fun n lc hc => ∃ (k : Nat), n = l.length - k ∧ EqS lc [(7, .d (.int .i64 (k : Nat)))] ∧ EqS hc (⟨[], []⟩) ∧ (k ≤ l.length) ∧ (GoodI l k)) ?_ ?_
 · refine ⟨_, 0, rfl, ZE, ZE, ?_, ?_⟩
   all_goals (first | omega | exact fun j h h9 => absurd h9 (by omega))
 rintro _ _ _ ⟨k, rfl, ⟨rfl⟩, ⟨rfl⟩, h1, h2⟩
 simp only [go_sem]
 refine Zs ?_
 refine Zp 71 ?_
 refine Zc (fun hc4 => ?_) fun hc4 => ?_
 ·
  have hlt : k < l.length := by omega
  have hki : (k : Int) < (l.length : Int) := by omega
  have zf2 := fun d0_ => map_getD strD l k d0_ hlt
  refine Zk ?_
  refine Zs ?_
  refine AWp.block ?_
  refine Zx ?_
  try simp only [go_sem, zf2, hki]
  (repeat (with_reducible refine And.intro ZS ?_))
  refine DW.pcr rfl rfl rfl rfl (flagBit_c T _) rfl rfl ?_
  try simp only [go_sem, zf2, hki]
  (repeat (with_reducible refine And.intro ZS ?_))
  refine Zm 519 ?_
  refine Zc (fun hc5 => ?_) fun hc5 => ?_
  ·
   have hm := (flB_0 (l[k])).1 hc5
   refine Zp 6 ?_
   refine AWp.ret ?_
   try simp only [go_sem, zf2, hki]
   rw [flE_7 hlt hm]; try simp [LeA, LeL, LeD]
  have hm : l[k] ∈ flagT := Decidable.byContradiction fun h9 => hc5 ((flB_0 (l[k])).2 h9)
  refine AWp.skip (blkQ_n (thenQ_n ?_))
  refine Zr (thenQ_n ?_)
  refine Zf 3 4 (.e ⟨_, ZM, k + 1, rfl, ZE, ZE, ?_, ?_⟩)
  · omega
  · exact h2.s hlt hm
 refine AWp.exit (thenQ_e (thenQ_e (blkQ_e (thenQ_n ?_))))
 refine Zp 6 ?_
 refine AWp.ret ?_
 try simp only [go_sem]
 rw [h2.e (by omega)]; try simp [LeA, LeL, LeD]
end Go.Proofs.YtidldcfpmehpiaaGreatDoor

namespace Go.Proofs.YtidldcfpmehpiaaGreatDoor
open Go.RowKit
set_option linter.unusedSimpArgs false
set_option linter.unusedVariables false
abbrev fileT : List UInt8 := [102, 105, 108, 101, 105, 110, 116, 111]
abbrev rejT : List UInt8 := [114, 101, 106, 101, 99, 116]
abbrev imapT : List UInt8 := [105, 109, 97, 112, 52, 102, 108, 97, 103, 115]
def toE (s : List UInt8) : Int := if (listR s).2 = 0 ∧ (listR s).1.length = 1 then 0 else 3
mutual
/-- may a command be, behind what is required -/
def cmdE (ks : List (List UInt8)) : Cmd → Int
  | .mk k tx t th el =>
    if k = 1 then 3
    else if k = 2 then (if ¬ tstE ks t = 0 then tstE ks t else if ¬ cmdEL ks th = 0 then cmdEL ks th else cmdEL ks el)
    else if k = 5 then (if ¬ needE ks fileT = 0 then needE ks fileT else nameE (tx.headD []))
    else if k = 7 then needE ks rejT
    else if k = 8 ∨ k = 9 then (if ¬ needE ks imapT = 0 then needE ks imapT else flE tx)
    else if k = 6 then toE (tx.headD [])
    else 0
def cmdEL (ks : List (List UInt8)) : List Cmd → Int
  | [] => 0
  | c :: l => if ¬ cmdE ks c = 0 then cmdE ks c else cmdEL ks l
end
theorem cmdE_eq (ks : List (List UInt8)) (c : Cmd) : cmdE ks c = if c.kind = 1 then 3
    else if c.kind = 2 then (if ¬ tstE ks c.test = 0 then tstE ks c.test else if ¬ cmdEL ks c.thn = 0 then cmdEL ks c.thn else cmdEL ks c.els)
    else if c.kind = 5 then (if ¬ needE ks fileT = 0 then needE ks fileT else nameE (c.texts.headD []))
    else if c.kind = 7 then needE ks rejT
    else if c.kind = 8 ∨ c.kind = 9 then (if ¬ needE ks imapT = 0 then needE ks imapT else flE c.texts)
    else if c.kind = 6 then toE (c.texts.headD [])
    else 0 := by cases c; rw [cmdE]; rfl
theorem cmdEL_t {ks : List (List UInt8)} {l : List Cmd} {k : Nat} (h : k < l.length) (hc : ¬ cmdE ks (l[k]) = 0) : cmdEL ks (l.drop k) = cmdE ks (l[k]) := by rw [List.drop_eq_getElem_cons h, cmdEL, if_pos hc]
theorem cmdEL_f {ks : List (List UInt8)} {l : List Cmd} {k : Nat} (h : k < l.length) (hc : cmdE ks (l[k]) = 0) : cmdEL ks (l.drop k) = cmdEL ks (l.drop (k + 1)) := by rw [List.drop_eq_getElem_cons h, cmdEL, if_neg (fun h9 => h9 hc)]
theorem cmdEL_e {ks : List (List UInt8)} {l : List Cmd} {k : Nat} (h : l.length ≤ k) : cmdEL ks (l.drop k) = 0 := by rw [List.drop_eq_nil_of_le h]; rfl
/-- only the members count -/
def Same (ks ks' : List (List UInt8)) : Prop := ∀ s, s ∈ ks ↔ s ∈ ks'
theorem Same.need {ks ks' : List (List UInt8)} (h : Same ks ks') (s : List UInt8) : needE ks s = needE ks' s := by
  unfold needE
  by_cases h1 : s ∈ ks
  · rw [if_pos h1, if_pos ((h s).1 h1)]
  · rw [if_neg h1, if_neg (fun h9 => h1 ((h s).2 h9))]
mutual
theorem Same.tst {ks ks' : List (List UInt8)} (h : Same ks ks') : ∀ t : Tst, tstE ks t = tstE ks' t
  | .mk k m p ns ky o li kids => by
    rw [tstE, tstE, Same.tstL h kids]
    have := h envT
    by_cases h1 : envT ∈ ks
    · simp only [h1, this.1 h1]
    · have h2 : ¬ envT ∈ ks' := fun h9 => h1 (this.2 h9)
      simp only [h1, h2]
theorem Same.tstL {ks ks' : List (List UInt8)} (h : Same ks ks') : ∀ l : List Tst, tstEL ks l = tstEL ks' l
  | [] => rfl
  | t :: l => by rw [tstEL, tstEL, Same.tst h t, Same.tstL h l]
end
mutual
theorem Same.cmd {ks ks' : List (List UInt8)} (h : Same ks ks') : ∀ c : Cmd, cmdE ks c = cmdE ks' c
  | .mk k tx t th el => by rw [cmdE, cmdE, Same.tst h t, Same.cmdL h th, Same.cmdL h el, h.need, h.need, h.need]
theorem Same.cmdL {ks ks' : List (List UInt8)} (h : Same ks ks') : ∀ l : List Cmd, cmdEL ks l = cmdEL ks' l
  | [] => rfl
  | c :: l => by rw [cmdEL, cmdEL, Same.cmd h c, Same.cmdL h l]
end
theorem Same.add {ks ks' : List (List UInt8)} (h : Same ks ks') (s : List UInt8) : Same (addK s ks) (ks' ++ [s]) := fun x => by
  unfold addK
  rw [List.mem_append, List.mem_singleton]
  split
  · rename_i hs
    rw [h x]
    exact ⟨.inl, fun h9 => h9.elim id fun h8 => by rw [h8]; exact (h s).1 hs⟩
  · rw [List.mem_append, List.mem_singleton, h x]
end Go.Proofs.YtidldcfpmehpiaaGreatDoor

namespace Go.Proofs.YtidldcfpmehpiaaGreatDoor
set_option linter.unusedSimpArgs false
set_option linter.unusedVariables false
def btD (b : Bt) : List D := [.str b.text, .bool b.run, .bool b.quo, .bool b.apart]
def btsD (l : List Bt) : List (List D) := l.map btD
@[go_sem] theorem btsD_len (l : List Bt) : (btsD l).length = l.length := by simp [btsD]
theorem btsD_get (l : List Bt) (i : Nat) (d : List D) (h : i < l.length) : (btsD l).getD i d = btD (l[i]'h) := map_getD btD _ _ _ h
theorem btsD_none (l : List Bt) (i : Nat) (h : l.length ≤ i) : (btsD l).getD i [] = [] := by simp [btsD, List.getD, h]
def bitsV : Option (List Bt) → AV
  | some l => .tup [.d (.slc 4 (btsD l)), .d (.bool true)]
  | none => .tup [.any, .d (.bool false)]
theorem take1 {s : Tx} {i : Nat} (h : i < s.length) : (s.take (i + 1)).drop i = [s.getD i 0] := by
  have := take_step h (Nat.le_refl i) []
  simp only [List.append_nil] at this
  rw [← this]
  simp
theorem run_pos {s : Tx} {i e : Nat} (h1 : (s.take e).drop i ++ runS (s.drop e) = runS (s.drop i)) (h2 : runS (s.drop e) = []) (h3 : i < e) (h4 : e ≤ s.length) : runS (s.drop i) ≠ [] := by
  rw [h2, List.append_nil] at h1
  rw [← h1]
  intro e1
  have := congrArg List.length e1
  simp at this
  omega
theorem run_zero {s : Tx} {i e : Nat} (h1 : (s.take e).drop i ++ runS (s.drop e) = runS (s.drop i)) (h2 : runS (s.drop e) = []) (h3 : e ≤ i) (h4 : i < s.length) : runB (s.getD i 0) = false := by
  have h5 : (s.take e).drop i = [] := List.drop_eq_nil_of_le (by simp; omega)
  rw [h2, h5, List.nil_append, drop_cons h4] at h1
  cases e1 : runB (s.getD i 0) with
  | false => rfl
  | true => rw [runS_cons e1] at h1; cases h1
set_option maxRecDepth 4000 in
set_option maxHeartbeats 1000000 in
theorem blank_c (T : Tbl) (c : UInt8) : PC Tryz.prog T 136 [.d (.int .u8 c.toNat)] (.d (.bool (blkB c))) := by
 refine ⟨Tryz.call136, PCall.enterS Tryz.func136 rfl Tryz.ntmps136 rfl fun hb => ?_⟩
 simp only [go_sem, Tryz.results136]
 refine Zp 1 ?_
 refine Zp 2 ?_
 refine AWp.ret ?_
 try simp only [go_sem]
 have e : blkB c = (decide ((c.toNat : Int) = 32) || decide ((c.toNat : Int) = 9)) := by
   unfold blkB
   congr 1 <;> rw [Bool.eq_iff_iff, beq_iff_eq, decide_eq_true_eq]
   · exact (byte_is c 32).symm
   · exact (byte_is c 9).symm
 rw [e]
attribute [local go_sem] icast in
set_option maxRecDepth 4000 in
set_option maxHeartbeats 1000000 in
theorem bitsOf_c (T : Tbl) (s : Tx) (hs : s.length ≤ 4294967296) : PC Tryz.prog T 146 [.d (.str s)] (bitsV (bitsS false s)) := by
 refine ⟨Tryz.call146, PCall.enterS Tryz.func146 rfl Tryz.ntmps146 rfl fun hb => ?_⟩
 simp only [go_sem, Tryz.results146]
 refine Zp 1 ?_
 refine Zp 3 ?_
 simp only [go_sem]
 refine AWp.ownNilS 4 4 rfl rfl (by decide) fun t0 ft0 => ?_
 try simp only [freshT] at ft0
 simp only [go_sem, ft0]
 refine Zp 7 ?_
 refine Zs ?_
 refine Zp 15 ?_
 refine AWp.block ?_
 simp only [go_sem]
 refine Zl 1 14 (fun n lc hc => ∃ (i v : Nat) (ap : Bool) (Y : List Bt), n = s.length - i ∧ EqS lc [(4, .own v 4 (btsD Y)), (5, .d (.bool ap)), (6, .d (.int .i64 i))] ∧ EqS hc (⟨[], [v]⟩) ∧ (i ≤ s.length) ∧ (Y.length ≤ i) ∧ ((bitsS ap (s.drop i)).map (Y ++ ·) = bitsS false s)) ?_ ?_
 · refine ⟨_, 0, t0, false, [], rfl, ?_, ZE, ?_, ?_, ?_⟩
   · (try simp only [go_sem, ft0]) <;> first | exact ⟨rfl⟩ | (constructor; simp [btsD]; done)
   all_goals (first | omega | (simp; done) | (cases bitsS false s <;> rfl))
 rintro _ _ _ ⟨i, v, ap, Y, rfl, ⟨rfl⟩, ⟨rfl⟩, h1, h2, h3⟩
 simp only [go_sem]
 refine Zs ?_
 refine Zp 143 ?_
 refine Zc (fun hc0 => ?_) fun hc0 => ?_
 ·
  have hlt : i < s.length := by omega
  have hd := drop_cons hlt
  refine Zk ?_
  refine AWp.block ?_
  refine Zs ?_
  refine Zx ?_
  try simp only [go_sem, ft0]
  (repeat (with_reducible refine And.intro ZS ?_))
  refine DW.pcr rfl rfl rfl rfl (blank_c T _) rfl rfl ?_
  try simp only [go_sem, ft0]
  (repeat (with_reducible refine And.intro ZS ?_))
  refine Zm 271 ?_
  refine Zc (fun hc1 => ?_) fun hc1 => ?_
  ·
   have hst : bitsS ap (s.drop i) = bitsS true (s.drop (i + 1)) := by rw [hd, bits_blank hc1]
   refine Zp 15 ?_
   refine Zp 15 ?_
   refine AWp.exit (thenQ_e (blkQ_e (thenQ_n ?_)))
   refine Ze 1 14 [] [] [] [v] (.e ⟨_, ZM, (i + 1), v, true, Y, rfl, ?_, ZE, ?_, ?_, ?_⟩)
   · (try simp only [go_sem, ft0]) <;> first | exact ⟨rfl⟩ | (constructor; first | (simp [btsD, btD, take1 hlt]; done) | (simp [btsD, btD]; done))
   · omega
   · first | omega | (simp; omega)
   · first | (rw [← h3, hst]; done) | (rw [← h3, hst]; cases bitsS true (s.drop (i + 1)) <;> simp)
  refine Zk ?_
  refine Zp 31 ?_
  refine Zs ?_
  refine AWp.block ?_
  simp only [go_sem]
  refine Zl 15 16 (fun n lc hc => ∃ (e : Nat), n = s.length - e ∧ EqS lc [(7, .d (.int .i64 e))] ∧ EqS hc (⟨[], [v]⟩) ∧ (i ≤ e) ∧ (e ≤ s.length) ∧ (offS (s.drop e) = offS (s.drop i)) ∧ ((s.take e).drop i ++ runS (s.drop e) = runS (s.drop i))) ?_ ?_
  · refine ⟨_, i, rfl, ZE, ZE, ?_, ?_, ?_, ?_⟩
    all_goals (first | omega | rfl | (simp; done))
  rintro _ _ _ ⟨e, rfl, ⟨rfl⟩, ⟨rfl⟩, g1, g2, g3, g4⟩
  simp only [go_sem]
  refine Zs ?_
  refine Zx ?_
  try simp only [go_sem, ft0]
  (repeat (with_reducible refine And.intro ZS ?_))
  refine DW.pcgr rfl rfl rfl rfl rfl (fun hg => atomByte_p T _) (fun hg => by (try simp only [go_sem, ft0]) <;> first | exact hg | (exfalso; simp at hg; done) | (simpa using hg) | grind) rfl rfl ?_
  try simp only [go_sem, ft0]
  (repeat (with_reducible refine And.intro ZS ?_))
  refine Zm 1048607 ?_
  refine Zc (fun hc2 => ?_) fun hc2 => ?_
  ·
   have hrb : ∀ h, runB (s.getD e 0) = true := fun (h : (atomB (s.getD e 0) = true ∨ ((s.getD e 0).toNat : Int) = 46)) => by rw [runB_eq]; simpa using h
   refine Zk ?_
   refine AWp.block ?_
   refine Zr (blkQ_n (thenQ_n ?_))
   refine Zf 15 16 (.e ⟨_, ZM, e + 1, rfl, ZE, ZE, ?_, ?_, ?_, ?_⟩)
   · omega
   · omega
   · rw [← (run_step (by omega) (hrb hc2.2)).2]; exact g3
   · rw [(run_step (by omega) (hrb hc2.2)).1, take_step (by omega) g1] at g4; exact g4
  have he := run_end (s := s) (j := e) (fun hj => by
    rw [runB_eq]
    rcases hc2 with hc2 | hc2
    · omega
    · simpa using hc2)
  refine AWp.exit (thenQ_e (thenQ_e (blkQ_e (thenQ_n ?_))))
  refine Zs ?_
  refine Zp 287 ?_
  refine Zc (fun hc3 => ?_) fun hc3 => ?_
  ·
   have hrne := run_pos g4 he.1 (by omega) g2
   have hru : runS (s.drop i) = (s.take e).drop i := by rw [← g4, he.1, List.append_nil]
   have hst : bitsS ap (s.drop i) = (bitsS false (s.drop e)).map (⟨(s.take e).drop i, true, false, ap⟩ :: ·) := by rw [bits_runs hrne, hru, ← g3, he.2]
   refine Zx ?_
   try simp only [go_sem, ft0]
   (repeat (with_reducible refine And.intro ZS ?_))
   refine DW.app rfl rfl rfl rfl (show slI Tryz.prog 215 = some (221, 4, 24) by simp only [go_sem]) rfl rfl (by simp only [go_sem, ft0]) (by first | exact .inl rfl | exact .inr rfl) (by (try simp only [go_sem]); omega) (by (try simp only [go_sem]); omega) fun t1 ft1 => ?_
   try simp only [freshT] at ft1
   try simp only [go_sem, ft0, ft1]
   (repeat (with_reducible refine And.intro ZS ?_))
   refine Zm 19 ?_
   refine Zp 15 ?_
   refine Zp 15 ?_
   refine AWp.exit (thenQ_e (blkQ_e (thenQ_n ?_)))
   refine Ze 1 14 [] [] [] [t1] (.e ⟨_, ZM, e, t1, false, (Y ++ [⟨(s.take e).drop i, true, false, ap⟩]), rfl, ?_, ZE, ?_, ?_, ?_⟩)
   · (try simp only [go_sem, ft0, ft1]) <;> first | exact ⟨rfl⟩ | (constructor; first | (simp [btsD, btD, take1 hlt]; done) | (simp [btsD, btD]; done))
   · omega
   · first | omega | (simp; omega)
   · first | (rw [← h3, hst]; done) | (rw [← h3, hst]; cases bitsS false (s.drop e) <;> simp)
  have hru := run_zero g4 he.1 (by omega) hlt
  refine Zk ?_
  refine Zs ?_
  refine Zp 527 ?_
  refine Zc (fun hc4 => ?_) fun hc4 => ?_
  ·
   have hne : s.getD i 0 ≠ 34 := fun h => hc4 (by rw [h]; rfl)
   have hst : bitsS ap (s.drop i) = (bitsS false (s.drop (i + 1))).map (⟨[s.getD i 0], false, false, ap⟩ :: ·) := by rw [hd, bits_one hc1 hru hne]
   refine Zx ?_
   try simp only [go_sem, ft0]
   (repeat (with_reducible refine And.intro ZS ?_))
   refine DW.app rfl rfl rfl rfl (show slI Tryz.prog 215 = some (221, 4, 24) by simp only [go_sem]) rfl rfl (by simp only [go_sem, ft0]) (by first | exact .inl rfl | exact .inr rfl) (by (try simp only [go_sem]); omega) (by (try simp only [go_sem]); omega) fun t2 ft2 => ?_
   try simp only [freshT] at ft2
   try simp only [go_sem, ft0, ft2]
   (repeat (with_reducible refine And.intro ZS ?_))
   refine Zm 11 ?_
   refine Zp 15 ?_
   refine Zp 15 ?_
   refine AWp.exit (thenQ_e (blkQ_e (thenQ_n ?_)))
   refine Ze 1 14 [] [] [] [t2] (.e ⟨_, ZM, (i + 1), t2, false, (Y ++ [⟨[s.getD i 0], false, false, ap⟩]), rfl, ?_, ZE, ?_, ?_, ?_⟩)
   · (try simp only [go_sem, ft0, ft2]) <;> first | exact ⟨rfl⟩ | (constructor; first | (simp [btsD, btD, take1 hlt]; done) | (simp [btsD, btD]; done))
   · omega
   · first | omega | (simp; omega)
   · first | (rw [← h3, hst]; done) | (rw [← h3, hst]; cases bitsS false (s.drop (i + 1)) <;> simp)
  have h34 : s.getD i 0 = 34 := (byte_is _ 34).1 hc4
  rw [h34] at hd
  refine Zk ?_
  refine Zp 23 ?_
  refine Zs ?_
  refine AWp.block ?_
  simp only [go_sem]
  refine Zl 7 8 (fun n lc hc => ∃ (e : Nat), n = s.length + 2 - e ∧ EqS lc [(7, .d (.int .i64 e))] ∧ EqS hc (⟨[], [v]⟩) ∧ (i + 1 ≤ e) ∧ (quoS (s.drop e) = quoS (s.drop (i + 1)))) ⟨_, (i + 1), rfl, ZE, ZE, ZI, ZI⟩ ?_
  rintro _ _ _ ⟨e, rfl, ⟨rfl⟩, ⟨rfl⟩, k1, k2⟩
  simp only [go_sem]
  refine Zs ?_
  refine Zp 8207 ?_
  refine Zc (fun hc5 => ?_) fun hc5 => ?_
  ·
   have hel : e < s.length := by omega
   have hed := drop_cons hel
   have hn34 : s.getD e 0 ≠ 34 := fun h => hc5.2 (by rw [h]; rfl)
   refine Zk ?_
   refine AWp.block ?_
   refine Zs ?_
   refine Zp 271 ?_
   refine Zc (fun hc6 => ?_) fun hc6 => ?_
   ·
    have h92 : s.getD e 0 = 92 := (byte_is _ 92).1 hc6
    have hsq : quoS (s.drop e) = quoS (s.drop (e + 1 + 1)) := by
      rw [hed, h92]
      rcases Nat.lt_or_ge (e + 1) s.length with h | h
      · rw [drop_cons h, quo_esc]
      · rw [drop_none h, drop_none (by omega)]; exact quo_esc1
    refine Zr (thenQ_n ?_)
    refine Zr (blkQ_n (thenQ_n ?_))
    refine Zf 7 8 (.e ⟨_, ZM, (e + 1 + 1), rfl, ZE, ZE, ?_, ?_⟩)
    · omega
    · rw [← k2]; exact hsq.symm
   have hsq : quoS (s.drop e) = quoS (s.drop (e + 1)) := by rw [hed]; exact quo_step hn34 (fun h => hc6 (by rw [h]; rfl))
   refine Zk ?_
   refine Zr (blkQ_n (thenQ_n ?_))
   refine Zf 7 8 (.e ⟨_, ZM, (e + 1), rfl, ZE, ZE, ?_, ?_⟩)
   · omega
   · rw [← k2]; exact hsq.symm
  refine AWp.exit (thenQ_e (thenQ_e (blkQ_e (thenQ_n ?_))))
  refine Zs ?_
  refine Zp 271 ?_
  refine Zc (fun hc7 => ?_) fun hc7 => ?_
  ·
   have hq : quoS (s.drop (i + 1)) = none := by rw [← k2, drop_none (by omega)]; rfl
   refine Zp 6 ?_
   refine AWp.ret ?_
   try simp only [go_sem, ft0]
   have hn : bitsS false s = none := by rw [← h3, hd, bits_quoN hq]; rfl
   rw [hn]; simp [bitsV, LeA, LeL, LeD]
  have hel : e < s.length := by omega
  have h34e : s.getD e 0 = 34 := (byte_is _ 34).1 (by
    rcases hc5 with hc5 | hc5
    · omega
    · exact hc5)
  have hq : quoS (s.drop (i + 1)) = some (s.drop (e + 1)) := by rw [← k2, drop_cons hel, h34e, quo_end]
  have hst : bitsS ap (s.drop i) = (bitsS false (s.drop (e + 1))).map (⟨[], false, true, ap⟩ :: ·) := by rw [hd, bits_quoS hq]
  refine Zk ?_
  refine Zx ?_
  try simp only [go_sem, ft0]
  (repeat (with_reducible refine And.intro ZS ?_))
  refine DW.app rfl rfl rfl rfl (show slI Tryz.prog 215 = some (221, 4, 24) by simp only [go_sem]) rfl rfl (by simp only [go_sem, ft0]) (by first | exact .inl rfl | exact .inr rfl) (by (try simp only [go_sem]); omega) (by (try simp only [go_sem]); omega) fun t3 ft3 => ?_
  try simp only [freshT] at ft3
  try simp only [go_sem, ft0, ft3]
  (repeat (with_reducible refine And.intro ZS ?_))
  refine Zm 11 ?_
  refine Zp 15 ?_
  refine Zr (blkQ_n (thenQ_n ?_))
  refine Ze 1 14 [] [] [] [t3] (.e ⟨_, ZM, (e + 1), t3, false, (Y ++ [⟨[], false, true, ap⟩]), rfl, ?_, ZE, ?_, ?_, ?_⟩)
  · (try simp only [go_sem, ft0, ft3]) <;> first | exact ⟨rfl⟩ | (constructor; first | (simp [btsD, btD, take1 hlt]; done) | (simp [btsD, btD]; done))
  · omega
  · first | omega | (simp; omega)
  · first | (rw [← h3, hst]; done) | (rw [← h3, hst]; cases bitsS false (s.drop (e + 1)) <;> simp)
 refine AWp.exit (thenQ_e (thenQ_e (blkQ_e (thenQ_n ?_))))
 refine Zm 2 ?_
 refine Zp 3 ?_
 refine AWp.ret ?_
 try simp only [go_sem, ft0]
 have hn : bitsS false s = some Y := by rw [← h3, drop_none (by omega), bits_nil]; simp
 rw [hn]; simp [bitsV, LeA, LeL, LeD]
theorem icast2 (n : Nat) : (n : Int) + 2 = ((n + 2 : Nat) : Int) := rfl
theorem icast3 (n : Nat) : (n : Int) + 3 = ((n + 3 : Nat) : Int) := rfl
theorem icast4 (n : Nat) : (n : Int) + 4 = ((n + 4 : Nat) : Int) := rfl
theorem icast5 (n : Nat) : (n : Int) + 5 = ((n + 5 : Nat) : Int) := rfl
def plainV : Option (Ad × List Bt) → AV
  | some (a, _) => .tup [.agg [.d (.str a.1), .d (.str a.2)], .d (.int .i64 3)]
  | none => .tup [.agg [.d (.str []), .d (.str [])], .d (.int .i64 0)]
theorem plain_in {l : List Bt} {i : Nat} (h : i + 2 < l.length) : plainB (l.drop i) = if l[i].run = true ∧ l[i + 1].text = [64] ∧ l[i + 2].run = true ∧ l[i + 1].apart = false ∧ l[i + 2].apart = false ∧ adrE l[i].text l[i + 2].text = 0 then some ((l[i].text, l[i + 2].text), l.drop (i + 3)) else none := by
  rw [List.drop_eq_getElem_cons (by omega : i < l.length), List.drop_eq_getElem_cons (by omega : i + 1 < l.length), List.drop_eq_getElem_cons (by omega : i + 1 + 1 < l.length)]
  rfl
theorem plain_out {l : List Bt} {i : Nat} (h : l.length ≤ i + 2) : plainB (l.drop i) = none := by
  cases e : plainB (l.drop i) with
  | none => rfl
  | some x => obtain ⟨a, t⟩ := x; have := plainB_len e; simp at this; omega
def Short (l : List Bt) : Prop := ∀ x ∈ l, x.text.length ≤ 4294967296
theorem Short.at {l : List Bt} (h : Short l) {i : Nat} (hi : i < l.length) : (l[i]'hi).text.length ≤ 4294967296 := h _ (List.getElem_mem hi)
attribute [local go_sem] icast icast2 decide_false decide_true Bool.false_or Bool.true_or Bool.not_true Bool.not_false Bool.false_eq_true Bool.true_eq_false and_true true_and btD in
set_option maxRecDepth 4000 in
set_option maxHeartbeats 1000000 in
theorem plainAt_c (T : Tbl) (hL : LibT T) (l : List Bt) (i : Nat) (hs : Short l) (hi : i ≤ 4294967296) (hl : l.length ≤ 4294967296) : PC Tryz.prog T 230 [.d (.slc 4 (btsD l)), .d (.int .i64 i)] (plainV (plainB (l.drop i))) := by
 refine ⟨Tryz.call230, PCall.enterS Tryz.func230 rfl Tryz.ntmps230 rfl fun hb => ?_⟩
 simp only [go_sem, Tryz.results230]
 refine Zx ?_
 try simp only [go_sem, false_imp_iff]
 (repeat (with_reducible refine And.intro ZS ?_))
 intro b4
 first | intro fb4 | have fb4 := True.intro
 try simp only [freshL] at fb4
 try simp only [go_sem, false_imp_iff, fb4]
 (repeat (with_reducible refine And.intro ZS ?_))
 refine Zs ?_
 rcases Nat.lt_or_ge (i + 2) l.length with hlt | hlt
 ·
  have hge : ((l.length : Int) ≤ ((i + 2 : Nat) : Int)) = False := by simp; omega
  have e0 := btsD_get l i [] (by omega)
  have e1 := btsD_get l (i + 1) [] (by omega)
  have e2 := btsD_get l (i + 2) [] (by omega)
  have zf1 := fun d0_ => btsD_get l i d0_ (by omega)
  have zf2 := fun d0_ => btsD_get l (i + 1) d0_ (by omega)
  have zf3 := fun d0_ => btsD_get l (i + 2) d0_ (by omega)
  refine Zp 1125899906842631 ?_
  refine Zc (fun hc0 => ?_) fun hc0 => ?_
  ·
   refine Zp 12 ?_
   refine AWp.ret ?_
   try simp only [go_sem, false_imp_iff, fb4, zf1, zf2, zf3, hge]
   first | (rw [plain_out hlt]; simp [plainV, LeA, LeL, LeD]; done) | (rw [plain_in hlt, if_neg (fun h => by simp [h] at hc0)]; simp [plainV, LeA, LeL, LeD])
  refine Zk ?_
  refine AWp.trees true (.seg 0 (.seg 1 (.seg 2 (.seg 3 (.seg 5 (.seg 6 (.seg 7 (.seg 8 (.seg 9 (.many (.alt 4 (.many (.alt 10 (.seg 11 (.seg 12 (.seg 13 (.done)))) (.alt 12 (.seg 10 (.seg 11 (.seg 13 (.done)))) (.nil)))) (.alt 10 (.many (.alt 4 (.seg 11 (.seg 12 (.seg 13 (.done)))) (.alt 12 (.seg 4 (.seg 11 (.seg 13 (.done)))) (.nil)))) (.alt 12 (.seg 4 (.seg 10 (.seg 11 (.seg 13 (.done))))) (.nil)))))))))))))) rfl (by kernel_rfl) fun K_ hK_ => ?_
  try simp only [go_sem, false_imp_iff, fb4, zf1, zf2, zf3, hge]
  (repeat (with_reducible refine And.intro ZS ?_))
  intro b6
  first | intro fb6 | have fb6 := True.intro
  try simp only [freshL] at fb6
  try simp only [go_sem, false_imp_iff, fb4, zf1, zf2, zf3, hge, fb6]
  (repeat (with_reducible refine And.intro ZS ?_))
  refine hK_ _ _ ?_
  refine Zm 12 ?_
  refine Zs ?_
  refine Zx ?_
  try simp only [go_sem, false_imp_iff, fb4, zf1, zf2, zf3, hge, fb6]
  (repeat (with_reducible refine And.intro ZS ?_))
  refine DW.pcr rfl rfl rfl rfl (addrFault_bp T _ _ (by have := hs.at (i := i) (by omega); omega) (by have := hs.at (i := i + 2) (by omega); omega)) rfl rfl ?_
  try simp only [go_sem, false_imp_iff, fb4, zf1, zf2, zf3, hge, fb6]
  (repeat (with_reducible refine And.intro ZS ?_))
  refine Zc (fun hc1 => ?_) fun hc1 => ?_
  ·
   refine Zp 3 ?_
   refine AWp.ret ?_
   try simp only [go_sem, false_imp_iff, fb4, zf1, zf2, zf3, hge, fb6]
   rw [plain_in hlt, if_neg (fun h => hc1 h.2.2.2.2.2)]; simp [plainV, LeA, LeL, LeD]
  refine Zk ?_
  refine Zp 3 ?_
  refine AWp.ret ?_
  try simp only [go_sem, false_imp_iff, fb4, zf1, zf2, zf3, hge, fb6]
  rw [plain_in hlt, if_pos ⟨hc0.1.1.1.1, hc0.1.1.1.2, hc0.1.1.2, hc0.1.2, hc0.2, hc1⟩]; simp [plainV, LeA, LeL, LeD]
 have hge : ((l.length : Int) ≤ ((i + 2 : Nat) : Int)) = True := by simp; omega
 refine Zp 1125899906842631 ?_
 refine Zc (fun hc0 => ?_) fun hc0 => ?_
 ·
  refine Zp 12 ?_
  refine AWp.ret ?_
  try simp only [go_sem, false_imp_iff, fb4, hge]
  first | (rw [plain_out hlt]; simp [plainV, LeA, LeL, LeD]; done) | (rw [plain_in hlt, if_neg (fun h => by simp [h] at hc0)]; simp [plainV, LeA, LeL, LeD])
 exact absurd hc0 (by first | (simp; done) | omega | (simp [*]; done))
end Go.Proofs.YtidldcfpmehpiaaGreatDoor

namespace Go.Proofs.YtidldcfpmehpiaaGreatDoor
set_option linter.unusedSimpArgs false
set_option linter.unusedVariables false
def addrV (n : Nat) : Option (Ad × List Bt) → AV
  | some (a, t) => .tup [.agg [.d (.str a.1), .d (.str a.2)], .d (.int .i64 (n - t.length : Int))]
  | none => .tup [.agg [.d (.str []), .d (.str [])], .d (.int .i64 (-1))]
theorem plain_t {l : List Bt} {i : Nat} {a : Ad} {t : List Bt} (h : plainB (l.drop i) = some (a, t)) : t = l.drop (i + 3) ∧ i + 3 ≤ l.length := by
  have h1 := plainB_len h
  simp at h1
  refine ⟨?_, by omega⟩
  rcases Nat.lt_or_ge (i + 2) l.length with h2 | h2
  · rw [plain_in h2] at h
    split at h
    · injection h with h; injection h with _ h; exact h.symm
    · cases h
  · rw [plain_out h2] at h; cases h
theorem plainAt_none (T : Tbl) (hL : LibT T) (l : List Bt) (i : Nat) (hs : Short l) (hi : i ≤ 4294967296) (hl : l.length ≤ 4294967296) (hp : plainB (l.drop i) = none) : PC Tryz.prog T 230 [.d (.slc 4 (btsD l)), .d (.int .i64 i)] (.tup [.agg [.d (.str []), .d (.str [])], .d (.int .i64 0)]) := by
  have := plainAt_c T hL l i hs hi hl
  rw [hp] at this; exact this
theorem plainAt_some (T : Tbl) (hL : LibT T) (l : List Bt) (i : Nat) (hs : Short l) (hi : i ≤ 4294967296) (hl : l.length ≤ 4294967296) (a : Ad) (t : List Bt) (hp : plainB (l.drop i) = some (a, t)) : PC Tryz.prog T 230 [.d (.slc 4 (btsD l)), .d (.int .i64 i)] (.tup [.agg [.d (.str a.1), .d (.str a.2)], .d (.int .i64 3)]) := by
  have := plainAt_c T hL l i hs hi hl
  rw [hp] at this; exact this
theorem dropw_step {l : List Bt} {k : Nat} (h : k < l.length) (hw : wordB l[k] = true) : (l.drop k).dropWhile wordB = (l.drop (k + 1)).dropWhile wordB := by
  rw [List.drop_eq_getElem_cons h, List.dropWhile_cons, if_pos hw]
theorem dropw_end {l : List Bt} {k : Nat} (h : ∀ hk : k < l.length, wordB l[k] = false) : (l.drop k).dropWhile wordB = l.drop k := by
  rcases Nat.lt_or_ge k l.length with hk | hk
  · rw [List.drop_eq_getElem_cons hk, List.dropWhile_cons, if_neg (by rw [h hk]; decide)]
  · rw [List.drop_eq_nil_of_le hk]; rfl
theorem ang_nil {l : List Bt} {k : Nat} (h : l.length ≤ k) : angB (l.drop k) = none := by rw [List.drop_eq_nil_of_le h]; rfl
theorem ang_ne {l : List Bt} {k : Nat} (h : k < l.length) (hx : l[k].text ≠ [60]) : angB (l.drop k) = none := by
  rw [List.drop_eq_getElem_cons h]; simp [angB, hx]
theorem ang_np {l : List Bt} {k : Nat} (h : k < l.length) (hp : plainB (l.drop (k + 1)) = none) : angB (l.drop k) = none := by
  rw [List.drop_eq_getElem_cons h]; simp [angB, hp]
theorem ang_p {l : List Bt} {k : Nat} (h : k < l.length) (hx : l[k].text = [60]) {a : Ad} {t : List Bt} (hp : plainB (l.drop (k + 1)) = some (a, t)) (h1 : k + 1 < l.length) : angB (l.drop k) = if h4 : k + 4 < l.length then (if l[k + 1].apart = false ∧ l[k + 4].text = [62] ∧ l[k + 4].apart = false then some (a, l.drop (k + 5)) else none) else none := by
  obtain ⟨ht, hle⟩ := plain_t hp
  have hh : (l.drop (k + 1)).head?.map Bt.apart = some l[k + 1].apart := by rw [List.drop_eq_getElem_cons h1]; rfl
  rw [List.drop_eq_getElem_cons h]
  simp only [angB, hx, if_true, hp, hh, Option.some.injEq]
  subst ht
  rcases Nat.lt_or_ge (k + 4) l.length with h4 | h4
  · rw [dif_pos h4, List.drop_eq_getElem_cons (show k + 1 + 3 < l.length by omega)]
  · rw [dif_neg (by omega), List.drop_eq_nil_of_le (by omega)]
theorem addrB_some {l : List Bt} {x : Ad × List Bt} (h : plainB l = some x) : addrB l = some x := by unfold addrB; rw [h]
theorem addrB_none {l : List Bt} (h : plainB l = none) : addrB l = angB (l.dropWhile wordB) := by unfold addrB; rw [h]
theorem b30 : ((3 : Int) = 0) = False := by simp
theorem b00 : ((0 : Int) = 0) = True := by simp
theorem b03 : ((0 : Int) < 3) = True := by simp
theorem b000 : ((0 : Int) < 0) = False := by simp
theorem intF {a b : Nat} (h : b ≤ a) : ((a : Int) < (b : Int)) = False := by simp; omega
theorem intT {a b : Nat} (h : a < b) : ((a : Int) < (b : Int)) = True := by simp; omega
theorem inlF {a b : Nat} (h : b < a) : ((a : Int) ≤ (b : Int)) = False := by simp; omega
theorem inlT {a b : Nat} (h : a ≤ b) : ((a : Int) ≤ (b : Int)) = True := by simp; omega
attribute [local go_sem] icast icast3 icast4 icast5 decide_false decide_true Bool.false_or Bool.true_or Bool.false_and Bool.true_and Bool.not_true Bool.not_false Bool.false_eq_true Bool.true_eq_false and_true true_and b30 b00 b03 b000 btD List.drop_nil List.take_nil List.map_nil List.headD_nil in
set_option maxRecDepth 4000 in
set_option maxHeartbeats 1000000 in
theorem addressAt_c (T : Tbl) (hL : LibT T) (l : List Bt) (i : Nat) (hs : Short l) (hi : i ≤ 4294967296) (hl : l.length ≤ 4294967296) : PC Tryz.prog T 147 [.d (.slc 4 (btsD l)), .d (.int .i64 i)] (addrV l.length (addrB (l.drop i))) := by
 refine ⟨Tryz.call147, PCall.enterS Tryz.func147 rfl Tryz.ntmps147 rfl fun hb => ?_⟩
 simp only [go_sem, Tryz.results147]
 refine Zx ?_
 try simp only [go_sem, false_imp_iff]
 (repeat (with_reducible refine And.intro ZS ?_))
 intro b4
 first | intro fb4 | have fb4 := True.intro
 try simp only [freshL] at fb4
 try simp only [go_sem, false_imp_iff, fb4]
 (repeat (with_reducible refine And.intro ZS ?_))
 rcases hp : plainB (l.drop i) with _ | x
 ·
  refine Zx ?_
  try simp only [go_sem, false_imp_iff, fb4]
  (repeat (with_reducible refine And.intro ZS ?_))
  refine DW.pcr rfl rfl rfl rfl (plainAt_none T hL l i hs hi hl hp) rfl rfl ?_
  try simp only [go_sem, false_imp_iff, fb4]
  (repeat (with_reducible refine And.intro ZS ?_))
  intro b6
  first | intro fb6 | have fb6 := True.intro
  try simp only [freshL] at fb6
  try simp only [go_sem, false_imp_iff, fb4, fb6]
  (repeat (with_reducible refine And.intro ZS ?_))
  refine Zm 55 ?_
  refine Zs ?_
  refine Zp 79 ?_
  refine Zc (fun hc0 => ?_) fun hc0 => ?_
  ·
   exact absurd hc0 (by first | (simp; done) | omega | (simp [*]; done))
  refine Zk ?_
  refine Zs ?_
  refine AWp.block ?_
  refine Zm 15 ?_
  simp only [go_sem]
  refine Zl 13 2 (fun n lc hc => ∃ (k : Nat), n = l.length - k ∧ EqS lc [(1, .d (.int .i64 k))] ∧ EqS hc (⟨[(b6, ⟨2, 1, [[.d (.str []), .d (.str [])]]⟩), (b4, ⟨2, 1, [[.d (.str []), .d (.str [])]]⟩)], []⟩) ∧ (i ≤ k) ∧ (k ≤ 4294967296) ∧ ((l.drop k).dropWhile wordB = (l.drop i).dropWhile wordB)) ?_ ?_
  · refine ⟨_, i, rfl, ZE, ZE, ?_, ?_, ?_⟩
    all_goals (first | omega | rfl)
  rintro _ _ _ ⟨k, rfl, ⟨rfl⟩, ⟨rfl⟩, h1, h2, h3⟩
  simp only [go_sem]
  refine Zs ?_
  rcases Nat.lt_or_ge k l.length with hlt | hlt
  ·
   have zf1 := fun d0_ => btsD_get l k d0_ hlt
   have zf2 := intT hlt
   have zf3 := inlF hlt
   refine Zp 2097167 ?_
   refine Zc (fun hc1 => ?_) fun hc1 => ?_
   ·
    refine Zk ?_
    refine AWp.block ?_
    refine Zr (blkQ_n (thenQ_n ?_))
    refine Ze 13 2 [] [] [b6, b4] [] (.e ⟨_, ZM, k + 1, rfl, ZE, ZE, ?_, ?_, ?_⟩)
    · omega
    · omega
    · rw [← dropw_step hlt (by simpa [wordB] using hc1)]; exact h3
   have hdw : (l.drop i).dropWhile wordB = l.drop k := by
     rw [← h3]
     exact dropw_end (fun hk => by first | (exfalso; omega) | (unfold wordB; simpa using hc1))
   refine AWp.exit (thenQ_e (thenQ_e (blkQ_e (thenQ_n ?_))))
   refine Zs ?_
   refine Zp 65551 ?_
   refine Zc (fun hc2 => ?_) fun hc2 => ?_
   ·
    refine Zp 12 ?_
    refine AWp.ret ?_
    try simp only [go_sem, false_imp_iff, fb4, fb6, zf1, zf2, zf3]
    rw [addrB_none hp, hdw]; first | rw [ang_nil hlt] | rw [ang_ne hlt (by simpa using hc2)]
    simp [addrV, LeA, LeL, LeD]
   refine Zk ?_
   rcases hp2 : plainB (l.drop (k + 1)) with _ | x
   ·
    refine Z1 31 (plainAt_none T hL l (k + 1) hs (by omega) hl hp2) ?_
    refine Zs ?_
    refine Zp 274877906958 ?_
    refine Zc (fun hc3 => ?_) fun hc3 => ?_
    ·
     refine Zp 6 ?_
     refine AWp.ret ?_
     try simp only [go_sem, false_imp_iff, fb4, fb6, zf1, zf2, zf3]
     have h60 : l[k].text = [60] := by simpa using hc2
     rw [addrB_none hp, hdw]
     first
     | rw [ang_np hlt hp2]
     | rw [ang_p hlt h60 hp2 (by omega), dif_neg (by omega)]
     | rw [ang_p hlt h60 hp2 (by omega), dif_pos hlt4, if_neg (fun h => by simp [h] at hc3)]
     simp [addrV, LeA, LeL, LeD]
    exact absurd hc3 (by first | (simp; done) | omega | (simp [*]; done))
   obtain ⟨a, t⟩ := x
   obtain ⟨rfl, hle⟩ := plain_t hp2
   refine Zx ?_
   try simp only [go_sem, false_imp_iff, fb4, fb6, zf1, zf2, zf3]
   (repeat (with_reducible refine And.intro ZS ?_))
   refine DW.pcr rfl rfl rfl rfl (plainAt_some T hL l (k + 1) hs (by omega) hl a _ hp2) rfl rfl ?_
   try simp only [go_sem, false_imp_iff, fb4, fb6, zf1, zf2, zf3]
   (repeat (with_reducible refine And.intro ZS ?_))
   refine Zm 31 ?_
   refine Zs ?_
   rcases Nat.lt_or_ge (k + 4) l.length with hlt4 | hlt4
   ·
    have zf4 := fun d0_ => btsD_get l (k + 1) d0_ (by omega)
    have zf5 := fun d0_ => btsD_get l (k + 4) d0_ hlt4
    have zf6 := inlF hlt4
    refine Zp 274877906958 ?_
    refine Zc (fun hc3 => ?_) fun hc3 => ?_
    ·
     refine Zp 6 ?_
     refine AWp.ret ?_
     try simp only [go_sem, false_imp_iff, fb4, fb6, zf1, zf2, zf3, zf4, zf5, zf6]
     have h60 : l[k].text = [60] := by simpa using hc2
     rw [addrB_none hp, hdw]
     first
     | rw [ang_np hlt hp2]
     | rw [ang_p hlt h60 hp2 (by omega), dif_neg (by omega)]
     | rw [ang_p hlt h60 hp2 (by omega), dif_pos hlt4, if_neg (fun h => by simp [h] at hc3)]
     simp [addrV, LeA, LeL, LeD]
    refine Zk ?_
    refine Zp 6 ?_
    refine AWp.ret ?_
    try simp only [go_sem, false_imp_iff, fb4, fb6, zf1, zf2, zf3, zf4, zf5, zf6]
    have h60 : l[k].text = [60] := by simpa using hc2
    rw [addrB_none hp, hdw, ang_p hlt h60 hp2 (by omega), dif_pos hlt4, if_pos ⟨hc3.1.1, hc3.1.2, hc3.2⟩]
    simp [addrV, LeA, LeL, LeD]
    omega
   have zf7 := fun d0_ => btsD_get l (k + 1) d0_ (by omega)
   have zf8 := inlT hlt4
   refine Zp 274877906958 ?_
   refine Zc (fun hc3 => ?_) fun hc3 => ?_
   ·
    refine Zp 6 ?_
    refine AWp.ret ?_
    try simp only [go_sem, false_imp_iff, fb4, fb6, zf1, zf2, zf3, zf7, zf8]
    have h60 : l[k].text = [60] := by simpa using hc2
    rw [addrB_none hp, hdw]
    first
    | rw [ang_np hlt hp2]
    | rw [ang_p hlt h60 hp2 (by omega), dif_neg (by omega)]
    | rw [ang_p hlt h60 hp2 (by omega), dif_pos hlt4, if_neg (fun h => by simp [h] at hc3)]
    simp [addrV, LeA, LeL, LeD]
   exact absurd hc3 (by first | (simp; done) | omega | (simp [*]; done))
  have zf9 := intF hlt
  have zf10 := inlT hlt
  have zf11 := btsD_none l k hlt
  refine Zp 2097167 ?_
  refine Zc (fun hc1 => ?_) fun hc1 => ?_
  ·
   exact absurd hc1 (by first | (simp; done) | omega | (simp [*]; done))
  have hdw : (l.drop i).dropWhile wordB = l.drop k := by
    rw [← h3]
    exact dropw_end (fun hk => by first | (exfalso; omega) | (unfold wordB; simpa using hc1))
  refine AWp.exit (thenQ_e (thenQ_e (blkQ_e (thenQ_n ?_))))
  refine Zs ?_
  refine Zp 65551 ?_
  refine Zc (fun hc2 => ?_) fun hc2 => ?_
  ·
   refine Zp 12 ?_
   refine AWp.ret ?_
   try simp only [go_sem, false_imp_iff, fb4, fb6, zf9, zf10, zf11]
   rw [addrB_none hp, hdw]; first | rw [ang_nil hlt] | rw [ang_ne hlt (by simpa using hc2)]
   simp [addrV, LeA, LeL, LeD]
  exact absurd hc2 (by first | (simp; done) | omega | (simp [*]; done))
 obtain ⟨a, t⟩ := x
 obtain ⟨rfl, hle⟩ := plain_t hp
 refine Zx ?_
 try simp only [go_sem, false_imp_iff, fb4]
 (repeat (with_reducible refine And.intro ZS ?_))
 refine DW.pcr rfl rfl rfl rfl (plainAt_some T hL l i hs hi hl a _ hp) rfl rfl ?_
 try simp only [go_sem, false_imp_iff, fb4]
 (repeat (with_reducible refine And.intro ZS ?_))
 intro b6
 first | intro fb6 | have fb6 := True.intro
 try simp only [freshL] at fb6
 try simp only [go_sem, false_imp_iff, fb4, fb6]
 (repeat (with_reducible refine And.intro ZS ?_))
 refine Zm 55 ?_
 refine Zs ?_
 refine Zp 79 ?_
 refine Zc (fun hc0 => ?_) fun hc0 => ?_
 ·
  refine Zp 12 ?_
  refine AWp.ret ?_
  try simp only [go_sem, false_imp_iff, fb4, fb6]
  rw [addrB_some hp]; simp [addrV, LeA, LeL, LeD]; omega
 exact absurd hc0 (by first | (simp; done) | omega | (simp [*]; done))
end Go.Proofs.YtidldcfpmehpiaaGreatDoor

namespace Go.Proofs.YtidldcfpmehpiaaGreatDoor
set_option linter.unusedSimpArgs false
set_option linter.unusedVariables false
theorem dropw_drop (l : List Bt) (i : Nat) : ∃ k, i ≤ k ∧ (l.drop i).dropWhile wordB = l.drop k := by
  obtain ⟨t, ht⟩ := List.dropWhile_suffix (l := l.drop i) wordB
  refine ⟨i + t.length, by omega, ?_⟩
  have h2 : List.drop t.length (t ++ List.dropWhile wordB (l.drop i)) = List.dropWhile wordB (l.drop i) := by simp
  rw [ht, List.drop_drop] at h2
  exact h2.symm
theorem ang_t {l : List Bt} {k : Nat} {a : Ad} {t : List Bt} (h : angB (l.drop k) = some (a, t)) : t = l.drop (k + 5) ∧ k + 5 ≤ l.length := by
  rcases Nat.lt_or_ge k l.length with hk | hk
  · by_cases hx : l[k].text = [60]
    · cases hp : plainB (l.drop (k + 1)) with
      | none => rw [ang_np hk hp] at h; cases h
      | some x =>
        obtain ⟨a', t'⟩ := x
        obtain ⟨_, hle⟩ := plain_t hp
        rw [ang_p hk hx hp (by omega)] at h
        split at h
        · split at h
          · injection h with h; injection h with _ h; exact ⟨h.symm, by omega⟩
          · cases h
        · cases h
    · rw [ang_ne hk hx] at h; cases h
  · rw [ang_nil hk] at h; cases h
theorem addr_t {l : List Bt} {i : Nat} {a : Ad} {t : List Bt} (h : addrB (l.drop i) = some (a, t)) : ∃ e, i < e ∧ e ≤ l.length ∧ t = l.drop e := by
  cases hp : plainB (l.drop i) with
  | some x =>
    rw [addrB_some hp] at h
    injection h with h; subst h
    obtain ⟨h1, h2⟩ := plain_t hp
    exact ⟨i + 3, by omega, h2, h1⟩
  | none =>
    rw [addrB_none hp] at h
    obtain ⟨k, hk, e⟩ := dropw_drop l i
    rw [e] at h
    obtain ⟨h1, h2⟩ := ang_t h
    exact ⟨k + 5, by omega, h2, h1⟩
theorem addressAt_none (T : Tbl) (hL : LibT T) (l : List Bt) (i : Nat) (hs : Short l) (hi : i ≤ 4294967296) (hl : l.length ≤ 4294967296) (hp : addrB (l.drop i) = none) : PC Tryz.prog T 147 [.d (.slc 4 (btsD l)), .d (.int .i64 i)] (.tup [.agg [.d (.str []), .d (.str [])], .d (.int .i64 (-1))]) := by
  have := addressAt_c T hL l i hs hi hl
  rw [hp] at this; exact this
theorem addressAt_some (T : Tbl) (hL : LibT T) (l : List Bt) (i e : Nat) (hs : Short l) (hi : i ≤ 4294967296) (hl : l.length ≤ 4294967296) (a : Ad) (he : e ≤ l.length) (hp : addrB (l.drop i) = some (a, l.drop e)) : PC Tryz.prog T 147 [.d (.slc 4 (btsD l)), .d (.int .i64 i)] (.tup [.agg [.d (.str a.1), .d (.str a.2)], .d (.int .i64 e)]) := by
  have := addressAt_c T hL l i hs hi hl
  rw [hp] at this
  simp only [addrV, List.length_drop] at this
  rw [show ((l.length : Int) - ((l.length - e : Nat) : Int)) = e by omega] at this
  exact this
theorem bits_ok (n : Nat) : ∀ (s : Tx) (ap : Bool) (l : List Bt), s.length ≤ n → bitsS ap s = some l → l.length ≤ s.length ∧ ∀ x ∈ l, x.text.length ≤ s.length := by
  induction n with
  | zero =>
    intro s ap l hs h
    have : s = [] := List.eq_nil_of_length_eq_zero (by omega)
    subst this
    rw [bits_nil] at h; injection h with h; subst h; simp
  | succ n ih =>
    intro s ap l hs h
    cases s with
    | nil => rw [bits_nil] at h; injection h with h; subst h; simp
    | cons c r =>
      simp only [List.length_cons] at hs ⊢
      have fin : ∀ (q : Tx) (x : Bt) (l' : List Bt), q.length ≤ r.length → x.text.length ≤ r.length + 1 → bitsS false q = some l' → x :: l' = l → l.length ≤ r.length + 1 ∧ ∀ x ∈ l, x.text.length ≤ r.length + 1 := by
        intro q x l' hq hx h1 h2
        obtain ⟨i1, i2⟩ := ih q false l' (by omega) h1
        subst h2
        refine ⟨by simp; omega, fun y hy => ?_⟩
        rcases List.mem_cons.1 hy with rfl | hy
        · exact hx
        · have := i2 y hy; omega
      cases e : blkB c with
      | true =>
        rw [bits_blank e] at h
        obtain ⟨i1, i2⟩ := ih r true l (by omega) h
        exact ⟨by omega, fun x hx => by have := i2 x hx; omega⟩
      | false =>
        cases e2 : runB c with
        | true =>
          rw [bits_run e2] at h
          obtain ⟨l', h1, h2⟩ := Option.map_eq_some_iff.1 h
          have h3 := off_lt (c :: r) (by rw [runS_cons e2]; simp)
          have h4 := (List.takeWhile_sublist (l := c :: r) runB).length_le
          simp only [List.length_cons] at h3 h4
          exact fin _ _ l' (by omega) h4 h1 h2
        | false =>
          by_cases e3 : c = 34
          · subst e3
            cases e4 : quoS r with
            | none => rw [bits_quoN e4] at h; cases h
            | some q =>
              rw [bits_quoS e4] at h
              obtain ⟨l', h1, h2⟩ := Option.map_eq_some_iff.1 h
              have := quo_lt _ _ e4
              exact fin q _ l' (by omega) (by simp) h1 h2
          · rw [bits_one e e2 e3] at h
            obtain ⟨l', h1, h2⟩ := Option.map_eq_some_iff.1 h
            exact fin r _ l' (by omega) (by simp) h1 h2
theorem bits_short {s : Tx} {l : List Bt} (h : bitsS false s = some l) (hs : s.length ≤ 4294967296) : l.length ≤ 4294967296 ∧ Short l := by
  obtain ⟨h1, h2⟩ := bits_ok s.length s false l (Nat.le_refl _) h
  exact ⟨by omega, fun x hx => by have := h2 x hx; omega⟩
theorem bitsOf_none (T : Tbl) (s : Tx) (hs : s.length ≤ 4294967296) (h : bitsS false s = none) : PC Tryz.prog T 146 [.d (.str s)] (.tup [.any, .d (.bool false)]) := by
  have := bitsOf_c T s hs
  rw [h] at this; exact this
theorem bitsOf_some (T : Tbl) (s : Tx) (hs : s.length ≤ 4294967296) (l : List Bt) (h : bitsS false s = some l) : PC Tryz.prog T 146 [.d (.str s)] (.tup [.d (.slc 4 (btsD l)), .d (.bool true)]) := by
  have := bitsOf_c T s hs
  rw [h] at this; exact this
def adD (a : Ad) : List D := [.str a.1, .str a.2]
def adsD (l : List Ad) : List (List D) := l.map adD
@[go_sem] theorem adsD_len (l : List Ad) : (adsD l).length = l.length := by simp [adsD]
def listV : Option (List Ad) → AV
  | some l => .tup [.d (.slc 2 (adsD l)), .d (.bool true)]
  | none => .tup [.d (.slc 2 []), .d (.bool false)]
theorem lessF : (((-1 : Int) < 0)) = True := by simp
attribute [local go_sem] icast adD lessF btD in
set_option maxRecDepth 4000 in
set_option maxHeartbeats 1000000 in
theorem listOf_c (T : Tbl) (hL : LibT T) (s : Tx) (hs : s.length ≤ 4294967296) : PC Tryz.prog T 82 [.d (.str s)] (listV (listS s)) := by
 refine ⟨Tryz.call82, PCall.enterS Tryz.func82 rfl Tryz.ntmps82 rfl fun hb => ?_⟩
 simp only [go_sem, Tryz.results82]
 refine Zp 1 ?_
 rcases hb0 : bitsS false s with _ | l
 ·
  refine Z1 6 (bitsOf_none T s hs hb0) ?_
  refine Zs ?_
  refine Zp 9 ?_
  refine Zc (fun hc0 => ?_) fun hc0 => ?_
  ·
   refine Zp 3 ?_
   refine AWp.ret ?_
   try simp only [go_sem]
   have hn : listS s = none := by have := list_bits s.length s false (Nat.le_refl _); rw [hb0] at this; exact this.symm
   rw [hn]; simp [listV, LeA, LeL, LeD]
  exact absurd hc0 (by first | (simp; done) | omega | (simp [*]; done))
 obtain ⟨hl, hsh⟩ := bits_short hb0 hs
 have hLS : listB l = listS s := by have := list_bits s.length s false (Nat.le_refl _); rw [hb0] at this; exact this
 refine Z1 6 (bitsOf_some T s hs l hb0) ?_
 refine Zs ?_
 refine Zp 9 ?_
 refine Zc (fun hc0 => ?_) fun hc0 => ?_
 ·
  exact absurd hc0 (by first | (simp; done) | omega | (simp [*]; done))
 refine Zk ?_
 refine Zp 3 ?_
 simp only [go_sem]
 refine AWp.ownNilS 6 2 rfl rfl (by decide) fun t0 ft0 => ?_
 try simp only [freshT] at ft0
 simp only [go_sem, ft0]
 refine Zp 7 ?_
 refine AWp.block ?_
 simp only [go_sem]
 refine Zl 1 6 (fun n lc hc => ∃ (k v : Nat) (Y : List Ad), n = l.length - k ∧ EqS lc [(6, .own v 2 (adsD Y)), (7, .d (.int .i64 k))] ∧ EqS hc (⟨[], [v]⟩) ∧ (k ≤ l.length) ∧ (Y.length ≤ k) ∧ ((listB (l.drop k)).map (Y ++ ·) = listB l)) ?_ ?_
 · refine ⟨_, 0, t0, [], rfl, ?_, ZE, ?_, ?_, ?_⟩
   · (try simp only [go_sem, ft0]) <;> first | exact ⟨rfl⟩ | (constructor; simp [adsD]; done)
   all_goals (first | omega | (simp; done) | (cases listB l <;> rfl))
 rintro _ _ _ ⟨k, v, Y, rfl, ⟨rfl⟩, ⟨rfl⟩, h1, h2, h3⟩
 simp only [go_sem]
 refine AWp.block ?_
 rcases hp : addrB (l.drop k) with _ | x
 ·
  refine Zx ?_
  try simp only [go_sem, ft0]
  (repeat (with_reducible refine And.intro ZS ?_))
  refine DW.pcr rfl rfl rfl rfl (addressAt_none T hL l k hsh (by omega) hl hp) rfl rfl ?_
  try simp only [go_sem, ft0]
  (repeat (with_reducible refine And.intro ZS ?_))
  intro b8
  first | intro fb8 | have fb8 := True.intro
  try simp only [freshL] at fb8
  try simp only [go_sem, ft0, fb8]
  (repeat (with_reducible refine And.intro ZS ?_))
  refine Zm 27 ?_
  refine Zs ?_
  refine Zp 47 ?_
  refine Zc (fun hc1 => ?_) fun hc1 => ?_
  ·
   refine Zp 3 ?_
   refine AWp.ret ?_
   try simp only [go_sem, ft0, fb8]
   first | (exfalso; omega) | (rw [(by rw [← hLS, ← h3, listB_none hp]; rfl : listS s = none)]; simp [listV, LeA, LeL, LeD])
  exact absurd hc1 (by first | (simp; done) | omega | (simp [*]; done))
 obtain ⟨a, t⟩ := x
 obtain ⟨e, he1, he2, rfl⟩ := addr_t hp
 refine Zx ?_
 try simp only [go_sem, ft0]
 (repeat (with_reducible refine And.intro ZS ?_))
 refine DW.pcr rfl rfl rfl rfl (addressAt_some T hL l k e hsh (by omega) hl a he2 hp) rfl rfl ?_
 try simp only [go_sem, ft0]
 (repeat (with_reducible refine And.intro ZS ?_))
 intro b8
 first | intro fb8 | have fb8 := True.intro
 try simp only [freshL] at fb8
 try simp only [go_sem, ft0, fb8]
 (repeat (with_reducible refine And.intro ZS ?_))
 refine Zm 27 ?_
 refine Zs ?_
 refine Zp 47 ?_
 refine Zc (fun hc1 => ?_) fun hc1 => ?_
 ·
  refine Zp 3 ?_
  refine AWp.ret ?_
  try simp only [go_sem, ft0, fb8]
  first | (exfalso; omega) | (rw [(by rw [← hLS, ← h3, listB_none hp]; rfl : listS s = none)]; simp [listV, LeA, LeL, LeD])
 refine Zk ?_
 refine Zx ?_
 try simp only [go_sem, ft0, fb8]
 (repeat (with_reducible refine And.intro ZS ?_))
 refine DW.app rfl rfl rfl rfl (show slI Tryz.prog 144 = some (36, 2, 32) by simp only [go_sem]) rfl rfl (by simp only [go_sem, ft0, fb8]) (by first | exact .inl rfl | exact .inr rfl) (by (try simp only [go_sem]); omega) (by (try simp only [go_sem]); omega) fun t1 ft1 => ?_
 try simp only [freshT] at ft1
 try simp only [go_sem, ft0, fb8, ft1]
 (repeat (with_reducible refine And.intro ZS ?_))
 refine Zm 11 ?_
 refine Zs ?_
 refine Zp 71 ?_
 refine Zc (fun hc2 => ?_) fun hc2 => ?_
 ·
  have hst : listB (l.drop k) = some [a] := by
    have h0 : l.drop e = [] := List.drop_eq_nil_of_le (by omega)
    rw [h0] at hp
    exact listB_one hp
  refine Zp 3 ?_
  refine AWp.ret ?_
  try simp only [go_sem, ft0, fb8, ft1]
  have hn : listS s = some (Y ++ [a]) := by rw [← hLS, ← h3, hst]; rfl
  rw [hn]; simp [listV, adsD, adD, LeA, LeL, LeD]
 have hel : e < l.length := by omega
 rw [List.drop_eq_getElem_cons hel] at hp
 have zf1 := fun d0_ => btsD_get l e d0_ hel
 refine Zk ?_
 refine Zs ?_
 refine Zp 519 ?_
 refine Zc (fun hc3 => ?_) fun hc3 => ?_
 ·
  have hst : listB (l.drop k) = none := by rw [listB_more hp, if_neg (by simpa using hc3)]
  refine Zp 3 ?_
  refine AWp.ret ?_
  try simp only [go_sem, ft0, fb8, ft1, zf1]
  have hn : listS s = none := by rw [← hLS, ← h3, hst]; rfl
  rw [hn]; simp [listV, LeA, LeL, LeD]
 have hst : listB (l.drop k) = (listB (l.drop (e + 1))).map (a :: ·) := by rw [listB_more hp, if_pos (by simpa using hc3)]
 refine Zk ?_
 refine Zr (blkQ_n (thenQ_n ?_))
 refine Ze 1 6 [b8] [] [] [t1] (.e ⟨_, ZM, (e + 1), t1, (Y ++ [a]), rfl, ?_, ZE, ?_, ?_, ?_⟩)
 · (try simp only [go_sem, ft0, fb8, ft1, zf1]) <;> first | exact ⟨rfl⟩ | (constructor; simp [adsD, adD]; done)
 · omega
 · simp; omega
 · rw [← h3, hst]; cases listB (l.drop (e + 1)) <;> simp
end Go.Proofs.YtidldcfpmehpiaaGreatDoor

namespace Go.Proofs.YtidldcfpmehpiaaGreatDoor
set_option linter.unusedSimpArgs false
set_option linter.unusedVariables false
def adsV (r : List Ad × Int) : AV := .tup [.d (.slc 2 (adsD r.1)), .d (.int .i64 r.2)]
theorem list1_none (T : Tbl) (b2 b3 : Nat) (h : AH) : ADefer Tryz.prog T 218 [.ptr b2 1 0 0, .ptr b3 1 0 0] h none (fun h' => h' = h) := by
  refine ADefer.enter (t0 := 3) (t1 := 2) Tryz.call218 Tryz.func218 rfl Tryz.ntmps218 Tryz.results218 rfl rfl rfl rfl rfl rfl rfl rfl trivial ?_
  simp only [go_sem, Option.getD]
  refine AWp.rs fun K1 hK1 => ?_
  try simp only [go_sem]
  refine hK1 _ _ ?_
  refine AWp.cond _ rfl (fun hc => ?_) (fun hc => ?_)
  · exact absurd hc (by simp)
  · exact AWp.skip rfl
theorem list1_some (T : Tbl) (b2 b3 : Nat) (x : AV) (y e : Int) (F : List (Nat × Ob)) (L : List Nat) (h23 : (b2 == b3) = false) : ADefer Tryz.prog T 218 [.ptr b2 1 0 0, .ptr b3 1 0 0] ⟨(b2, ⟨1, 1, [[x]]⟩) :: (b3, ⟨1, 1, [[.d (.int .i64 y)]]⟩) :: F, L⟩ (some (.ifc 25 (.d (.int .i64 e)))) (fun h' => h' = ⟨(b2, ⟨1, 1, [[.nils]]⟩) :: (b3, ⟨1, 1, [[.d (.int .i64 e)]]⟩) :: F, L⟩) := by
  refine ADefer.enter (t0 := 3) (t1 := 2) Tryz.call218 Tryz.func218 rfl Tryz.ntmps218 Tryz.results218 rfl rfl rfl rfl rfl rfl rfl rfl trivial ?_
  simp only [go_sem, Option.getD]
  refine AWp.rs fun K1 hK1 => ?_
  try simp only [go_sem]
  refine hK1 _ _ ?_
  refine AWp.cond _ rfl (fun hc => ?_) (fun hc => ?_)
  · refine AWp.dk true [0, 1, 2, 3] rfl (by kernel_rfl) fun K2 hK2 => ?_
    try simp only [go_sem, assertP, h23]
    refine hK2 _ _ ?_
    rfl
  · exact absurd hc (by simp)
theorem list_step {s : Tx} {j j1 j2 : Nat} {a : Ad} (hq : addrS true (s.drop j) = some (a, s.drop j1)) (hsk : s.drop j2 = skipS (s.drop j1)) : listS (s.drop j) = match s.drop j2 with | [] => some [a] | c :: q => if c = 44 then (listS q).map (a :: ·) else none := by
  rw [listS_some hq, ← hsk]
  rfl
theorem list_no {s : Tx} {j j1 j2 : Nat} {a : Ad} (hq : addrS true (s.drop j) = some (a, s.drop j1)) (hsk : s.drop j2 = skipS (s.drop j1)) (h1 : j2 < s.length) (h : (s.drop j2).head? ≠ some 44) : listS (s.drop j) = none := by
  rw [list_step hq hsk, drop_cons h1]
  rw [drop_cons h1] at h
  simp at h
  simp [h]
theorem list_more {s : Tx} {j j1 j2 : Nat} {a : Ad} (hq : addrS true (s.drop j) = some (a, s.drop j1)) (hsk : s.drop j2 = skipS (s.drop j1)) (hd : s.drop j2 = 44 :: s.drop (j2 + 1)) : listS (s.drop j) = (listS (s.drop (j2 + 1))).map (a :: ·) := by
  rw [list_step hq hsk, hd]; simp
theorem list_end {s : Tx} {j j1 j2 : Nat} {a : Ad} (hq : addrS true (s.drop j) = some (a, s.drop j1)) (hsk : s.drop j2 = skipS (s.drop j1)) (h1 : s.length ≤ j2) : listS (s.drop j) = some [a] := by
  rw [list_step hq hsk, drop_none h1]
theorem listR_no {s : Tx} (h : ¬ 2000 < s.length) (hn : listS s = none) : listR s = ([], 3) := by rw [listR, if_neg h, hn]
theorem listR_full {s : Tx} {l : List Ad} (h : ¬ 2000 < s.length) (hn : listS s = some l) (hl : 20 < l.length) : listR s = ([], 5) := by rw [listR, if_neg h, hn]; exact if_pos hl
theorem listR_ok {s : Tx} {l : List Ad} (h : ¬ 2000 < s.length) (hn : listS s = some l) (hl : ¬ 20 < l.length) : listR s = (l, 0) := by rw [listR, if_neg h, hn]; exact if_neg hl
attribute [local go_sem] qob icast in
set_option maxRecDepth 4000 in
set_option maxHeartbeats 1000000 in
theorem List_a (T : Tbl) (hL : LibT T) (s : Tx) : AC Tryz.prog T 133 [.d (.str s)] (⟨[], []⟩) (fun x _ => x = .ret (adsV (listR s))) := by
 refine ⟨Tryz.call133, ACalls.enterD Tryz.func133 rfl Tryz.ntmps133 rfl fun hb => ?_⟩
 simp only [go_sem, Tryz.results133]
 refine AWpD.seq fun K1 hK1 => ?_
 refine Zq fun K_ k_ => ?_
 try simp only [go_sem]
 (repeat (with_reducible refine And.intro ZS ?_))
 intro b2
 first | intro fb2 | have fb2 := True.intro
 try simp only [freshL, qob] at fb2
 try simp only [go_sem, fb2]
 (repeat (with_reducible refine And.intro ZS ?_))
 intro b3
 first | intro fb3 | have fb3 := True.intro
 try simp only [freshL, qob] at fb3
 try simp only [go_sem, fb2, fb3]
 (repeat (with_reducible refine And.intro ZS ?_))
 refine k_ _ _ (thenQ_n ?_)
 refine hK1 _ _ ?_
 try clear hK1 K1
 refine AWpD.seq fun K2 hK2 => ?_
 refine Zp 39 ?_
 refine Zc (fun hc0 => ?_) fun hc0 => ?_
 ·
  refine Zp 6 ?_
  refine AWp.ret ?_
  try simp only [thenQ, blkQ]
  simp only [endD]
  apply endW_r [b2, b3] [] [] [] (by (try simp only [go_sem, fb2, fb3]); rfl)
  · rfl
  · rw [listR, if_pos (by omega)]; simp [adsV, adsD, LeA, LeL, LeD]
 have hs : s.length ≤ 4096 := by omega
 refine Zk ?_
 refine hK2 _ _ ?_
 try clear hK2 K2
 refine AWpD.defer rfl rfl rfl (by rw [mkS_len]; decide) rfl rfl ?_
 try simp only [go_sem, fb2, fb3]
 refine Zx ?_
 try simp only [go_sem, fb2, fb3]
 (repeat (with_reducible refine And.intro ZS ?_))
 intro b4
 first | intro fb4 | have fb4 := True.intro
 try simp only [freshL, qob] at fb4
 try simp only [go_sem, fb2, fb3, fb4]
 (repeat (with_reducible refine And.intro ZS ?_))
 refine Zm 14 ?_
 simp only [go_sem]
 refine AWp.ownNilH b2 0 0 2 (by (try simp only [go_sem, fb2, fb3, fb4]); rfl) rfl rfl (by decide) fun t0 ft0 => ?_
 try simp only [freshT] at ft0
 simp only [go_sem, fb2, fb3, fb4, ft0]
 refine Zs ?_
 refine AWp.block ?_
 refine Zl 7 0 (fun n lc hc => ∃ (j v : Nat) (Y : List Ad), n = s.length - j ∧ EqS lc [] ∧ EqS hc (⟨[qob b4 s j, (b3, ⟨1, 1, [[.d (.int .i64 0)]]⟩), (b2, ⟨1, 1, [[.own v 2 (adsD Y)]]⟩)], [v]⟩) ∧ (j ≤ s.length) ∧ (Y.length ≤ j) ∧ ((listS (s.drop j)).map (Y ++ ·) = listS s)) ?_ ?_
 · refine ⟨_, 0, t0, [], rfl, ZE, ?_, ?_, ?_, ?_⟩
   · (try simp only [go_sem, fb2, fb3, fb4, ft0]) <;> first | exact ⟨rfl⟩ | (constructor; simp [qob, adsD]; done)
   all_goals (first | omega | (simp; done) | (cases listS s <;> rfl))
 rintro _ _ _ ⟨j, v, Y, rfl, ⟨rfl⟩, ⟨rfl⟩, h1, h2, h3⟩
 simp only [go_sem]
 refine AWp.block ?_
 refine AWp.dsC [(2, .ptr b2 1 0 0), (3, .ptr b3 1 0 0)] (AgK.mk2 rfl rfl rfl rfl) rfl [1] 0 [2, 3] [4, 5] rfl (by kernel_rfl) rfl fun K_ hK_ => ?_
 try simp only [go_sem, fb2, fb3, fb4, ft0]
 (repeat (with_reducible refine And.intro ZS ?_))
 try with_reducible refine Exists.intro _ (And.intro (by first | rfl | (simp only [go_sem, fb2, fb3, fb4, ft0]; first | rfl | exact ⟨by omega, rfl⟩)) ?_)
 try simp only [go_sem, fb2, fb3, fb4, ft0]
 refine DW.acp [b4] [] rfl rfl rfl rfl (by (try simp only [go_sem, fb2, fb3, fb4, ft0]); rfl) rfl (address_c T hL b4 s j _ _ (by omega) hs) ?_
 rintro _ _ (⟨hI3q, rfl, yI3, rfl⟩ | ⟨I3, a4, hI3a, hI3b, hq, rfl, rfl⟩)
 ·
  intro _ hag
  try simp only [thenQ, blkQ]
  refine endD_p [b4] [] [b2, b3] [] ?_
  simp only [go_sem, fb2, fb3, fb4, ft0]
  refine (list1_some T b2 b3 _ _ _ _ _ (by simp only [fb2, fb3, fb4, ft0])).mono ?_
  rintro _ rfl
  refine dEnd_mk [] [] [] [] (by (try simp only [go_sem, fb2, fb3, fb4, ft0, hag.one, hag.tl.one]); rfl) rfl ?_
  rw [listR_no (by omega) (by rw [← h3, listS_none hI3q]; rfl)]
  simp [adsV, adsD, LeA, LeL, LeD]
 try simp only [go_sem, fb2, fb3, fb4, ft0]
 (repeat (with_reducible refine And.intro ZS ?_))
 try with_reducible refine And.intro (by first | rfl | (simp only [go_sem, fb2, fb3, fb4, ft0]; first | done | rfl | exact ⟨by omega, rfl⟩)) ?_
 try simp only [go_sem, fb2, fb3, fb4, ft0]
 (repeat (with_reducible refine And.intro ZS ?_))
 refine lvc_ok _ _ _ ?_
 try simp only [go_sem, fb2, fb3, fb4, ft0]
 (repeat (with_reducible refine And.intro ZS ?_))
 try with_reducible refine And.intro (by first | rfl | (simp only [go_sem, fb2, fb3, fb4, ft0]; first | done | rfl | exact ⟨by omega, rfl⟩)) ?_
 try simp only [go_sem, fb2, fb3, fb4, ft0]
 (repeat (with_reducible refine And.intro ZS ?_))
 refine DW.app rfl rfl rfl rfl (show slI Tryz.prog 144 = some (36, 2, 32) by simp only [go_sem]) rfl rfl (by simp only [go_sem, fb2, fb3, fb4, ft0]) (by first | exact .inl rfl | exact .inr rfl) (by (try simp only [go_sem]); omega) (by (try simp only [go_sem]); omega) fun t1 ft1 => ?_
 try simp only [freshT] at ft1
 try simp only [go_sem, fb2, fb3, fb4, ft0, ft1]
 (repeat (with_reducible refine And.intro ZS ?_))
 refine hK_ _ _ ?_
 refine Zm 7 ?_
 refine AWp.rsA [(2, .ptr b2 1 0 0), (3, .ptr b3 1 0 0)] (AgK.mk2 rfl rfl rfl rfl) rfl fun K_ hK_ => ?_
 try simp only [go_sem, fb2, fb3, fb4, ft0, ft1]
 (repeat (with_reducible refine And.intro ZS ?_))
 refine DW.acp [b4] [] rfl rfl rfl rfl (by (try simp only [go_sem, fb2, fb3, fb4, ft0, ft1]); rfl) rfl (skip_c T b4 s I3 _ _ (by omega) hs) ?_
 rintro _ _ ⟨I5, hI5a, hI5b, hI5c, rfl, rfl⟩
 try simp only [go_sem, fb2, fb3, fb4, ft0, ft1]
 (repeat (with_reducible refine And.intro ZS ?_))
 have hsk := hI5c
 refine hK_ _ _ ?_
 refine Zs ?_
 refine Zd true [0, 1, 2, 3, 4, 5, 6, 7, 8, 9] ?_
 try simp only [go_sem, fb2, fb3, fb4, ft0, ft1]
 (repeat (with_reducible refine And.intro ZS ?_))
 refine Zm 16391 ?_
 refine Zc (fun hc1 => ?_) fun hc1 => ?_
 ·
  have hS : listS s = some (Y ++ [a4]) := by rw [← h3, list_end hq hsk (by omega)]; rfl
  refine AWp.exit (thenQ_e (blkQ_d (by decide) (thenQ_e (blkQ_e (thenQ_n ?_)))))
  refine Zs ?_
  refine Zp 67 ?_
  refine Zc (fun hc2 => ?_) fun hc2 => ?_
  ·
   refine Zp 3 ?_
   refine AWp.ret ?_
   try simp only [thenQ, blkQ]
   refine endD_r [b4] [] [b2, b3] [] ?_
   try simp only [go_sem, fb2, fb3, fb4, ft0, ft1]
   refine (list1_none T b2 b3 _).mono ?_
   rintro _ rfl
   refine dEnd_mk [] [] [] [] (by (try simp only [go_sem, fb2, fb3, fb4, ft0, ft1]); rfl) rfl ?_
   rw [listR_full (by omega) hS (by simp [adsD] at hc2 ⊢; omega)]
   simp [adsV, adsD, adD, LeA, LeL, LeD]
  refine Zk ?_
  refine Zp 3 ?_
  refine AWp.ret ?_
  try simp only [thenQ, blkQ]
  refine endD_r [b4] [] [b2, b3] [] ?_
  try simp only [go_sem, fb2, fb3, fb4, ft0, ft1]
  refine (list1_none T b2 b3 _).mono ?_
  rintro _ rfl
  refine dEnd_mk [] [] [] [] (by (try simp only [go_sem, fb2, fb3, fb4, ft0, ft1]); rfl) rfl ?_
  rw [listR_ok (by omega) hS (by simp [adsD] at hc2 ⊢; omega)]
  simp [adsV, adsD, adD, LeA, LeL, LeD]
 have hne : I5 < s.length := by omega
 refine Zk ?_
 refine AWp.rsA [(2, .ptr b2 1 0 0), (3, .ptr b3 1 0 0)] (AgK.mk2 rfl rfl rfl rfl) rfl fun K_ hK_ => ?_
 try simp only [go_sem, fb2, fb3, fb4, ft0, ft1]
 (repeat (with_reducible refine And.intro ZS ?_))
 refine DW.acp [b4] [] rfl rfl rfl rfl (by (try simp only [go_sem, fb2, fb3, fb4, ft0, ft1]); rfl) rfl (next_c T b4 s I5 _ _ (by omega) hs) ?_
 rintro _ _ ⟨rfl, rfl⟩
 try simp only [go_sem, fb2, fb3, fb4, ft0, ft1]
 (repeat (with_reducible refine And.intro ZS ?_))
 refine DW.acp [] [] rfl rfl rfl rfl (by (try simp only [go_sem, fb2, fb3, fb4, ft0, ft1]); rfl) rfl (must_c T _ _) ?_
 rintro _ _ (⟨hm6, rfl, rfl⟩ | ⟨hm6, rfl, rfl⟩)
 ·
  intro _ hag
  try simp only [thenQ, blkQ]
  refine endD_p [b4] [] [b2, b3] [] ?_
  simp only [decide_eq_true_eq, decide_eq_false_iff_not, Bool.not_eq_true', Bool.not_eq_false', Bool.and_eq_true, Bool.or_eq_true, Bool.and_eq_false_iff, Bool.or_eq_false_iff, Int.not_lt, Int.not_le, beq_iff_eq, beq_eq_false_iff_ne, ne_eq, Bool.not_eq_true, Bool.not_eq_false] at hm6
  simp only [go_sem, fb2, fb3, fb4, ft0, ft1]
  refine (list1_some T b2 b3 _ _ _ _ _ (by simp only [fb2, fb3, fb4, ft0, ft1])).mono ?_
  rintro _ rfl
  refine dEnd_mk [] [] [] [] (by (try simp only [go_sem, fb2, fb3, fb4, ft0, ft1, hag.one, hag.tl.one]); rfl) rfl ?_
  rw [listR_no (by omega) (by rw [← h3, list_no hq hsk hne (head_no (c := 44) rfl hm6)]; rfl)]
  simp [adsV, adsD, LeA, LeL, LeD]
 simp only [decide_eq_true_eq, decide_eq_false_iff_not, Bool.not_eq_true', Bool.not_eq_false', Bool.and_eq_true, Bool.or_eq_true, Bool.and_eq_false_iff, Bool.or_eq_false_iff, Int.not_lt, Int.not_le, beq_iff_eq, beq_eq_false_iff_ne, ne_eq, Bool.not_eq_true, Bool.not_eq_false] at hm6
 obtain ⟨_, hd⟩ := head_is 44 rfl (by decide) hm6
 try simp only [go_sem, fb2, fb3, fb4, ft0, ft1]
 (repeat (with_reducible refine And.intro ZS ?_))
 refine hK_ _ _ ?_
 refine Zm 7 ?_
 refine Zr (blkQ_n (thenQ_n ?_))
 refine Ze 7 0 [] [] [b4, b3, b2] [t1] (.e ⟨_, ZM, (I5 + 1), t1, (Y ++ [a4]), rfl, ZE, ?_, ?_, ?_, ?_⟩)
 · (try simp only [go_sem, fb2, fb3, fb4, ft0, ft1]) <;> first | exact ⟨rfl⟩ | (constructor; simp [qob, adsD, adD]; done)
 · omega
 · simp; omega
 · rw [← h3, list_more hq hsk hd]; cases listS (s.drop (I5 + 1)) <;> simp
end Go.Proofs.YtidldcfpmehpiaaGreatDoor

namespace Go.Proofs.YtidldcfpmehpiaaGreatDoor
set_option linter.unusedSimpArgs false
set_option linter.unusedVariables false
theorem listOf_none (T : Tbl) (hL : LibT T) (s : Tx) (hs : s.length ≤ 4294967296) (h : listS s = none) : PC Tryz.prog T 82 [.d (.str s)] (.tup [.d (.slc 2 []), .d (.bool false)]) := by
  have := listOf_c T hL s hs
  rw [h] at this; exact this
theorem listOf_some (T : Tbl) (hL : LibT T) (s : Tx) (hs : s.length ≤ 4294967296) (l : List Ad) (h : listS s = some l) : PC Tryz.prog T 82 [.d (.str s)] (.tup [.d (.slc 2 (adsD l)), .d (.bool true)]) := by
  have := listOf_c T hL s hs
  rw [h] at this; exact this
theorem List_c (T : Tbl) (hL : LibT T) (s : Tx) : PC Tryz.prog T 133 [.d (.str s)] (adsV (listR s)) := PC.of_ac (List_a T hL s) (by simp [adsV, LeA, LeL, LeD])
end Go.Proofs.YtidldcfpmehpiaaGreatDoor

namespace Go.Proofs.YtidldcfpmehpiaaGreatDoor
set_option linter.unusedSimpArgs false
set_option linter.unusedVariables false
theorem headD_get {α : Type} {l : List α} {d : α} (h : 0 < l.length) : l.headD d = l[0] := by cases l with
  | nil => simp at h
  | cons x l => rfl
theorem cmdE_1 {ks : List (List UInt8)} {c : Cmd} (h : c.kind = 1) : cmdE ks c = 3 := by rw [cmdE_eq, if_pos h]
theorem cmdE_2t {ks : List (List UInt8)} {c : Cmd} (h : c.kind = 2) (h2 : ¬ tstE ks c.test = 0) : cmdE ks c = tstE ks c.test := by rw [cmdE_eq, if_neg (by omega), if_pos h, if_pos h2]
theorem cmdE_2a {ks : List (List UInt8)} {c : Cmd} (h : c.kind = 2) (h2 : tstE ks c.test = 0) (h3 : ¬ cmdEL ks c.thn = 0) : cmdE ks c = cmdEL ks c.thn := by rw [cmdE_eq, if_neg (by omega), if_pos h, if_neg (by omega), if_pos h3]
theorem cmdE_2b {ks : List (List UInt8)} {c : Cmd} (h : c.kind = 2) (h2 : tstE ks c.test = 0) (h3 : cmdEL ks c.thn = 0) : cmdE ks c = cmdEL ks c.els := by rw [cmdE_eq, if_neg (by omega), if_pos h, if_neg (by omega), if_neg (by omega)]
theorem cmdE_5n {ks : List (List UInt8)} {c : Cmd} (h : c.kind = 5) (h2 : ¬ needE ks fileT = 0) : cmdE ks c = needE ks fileT := by rw [cmdE_eq, if_neg (by omega), if_neg (by omega), if_pos h, if_pos h2]
theorem cmdE_5 {ks : List (List UInt8)} {c : Cmd} (h : c.kind = 5) (h2 : needE ks fileT = 0) (h0 : 0 < c.texts.length) : cmdE ks c = nameE (c.texts[0]) := by rw [cmdE_eq, if_neg (by omega), if_neg (by omega), if_pos h, if_neg (by omega), headD_get h0]
theorem cmdE_7 {ks : List (List UInt8)} {c : Cmd} (h : c.kind = 7) : cmdE ks c = needE ks rejT := by rw [cmdE_eq, if_neg (by omega), if_neg (by omega), if_neg (by omega), if_pos h]
theorem cmdE_8n {ks : List (List UInt8)} {c : Cmd} (h : c.kind = 8 ∨ c.kind = 9) (h2 : ¬ needE ks imapT = 0) : cmdE ks c = needE ks imapT := by rw [cmdE_eq, if_neg (by omega), if_neg (by omega), if_neg (by omega), if_neg (by omega), if_pos h, if_pos h2]
theorem cmdE_8 {ks : List (List UInt8)} {c : Cmd} (h : c.kind = 8 ∨ c.kind = 9) (h2 : needE ks imapT = 0) : cmdE ks c = flE c.texts := by rw [cmdE_eq, if_neg (by omega), if_neg (by omega), if_neg (by omega), if_neg (by omega), if_pos h, if_neg (by omega)]
theorem cmdE_6 {ks : List (List UInt8)} {c : Cmd} (h : c.kind = 6) (h0 : 0 < c.texts.length) : cmdE ks c = toE (c.texts[0]) := by rw [cmdE_eq, if_neg (by omega), if_neg (by omega), if_neg (by omega), if_neg (by omega), if_neg (by omega), if_pos h, headD_get h0]
theorem cmdE_o {ks : List (List UInt8)} {c : Cmd} (h1 : ¬ c.kind = 1) (h2 : ¬ c.kind = 2) (h5 : ¬ c.kind = 5) (h7 : ¬ c.kind = 7) (h8 : ¬ c.kind = 8) (h9 : ¬ c.kind = 9) (h6 : ¬ c.kind = 6) : cmdE ks c = 0 := by rw [cmdE_eq, if_neg h1, if_neg h2, if_neg h5, if_neg h7, if_neg (by omega), if_neg h6]
theorem toE_t {s : List UInt8} (h : ¬ (listR s).2 = 0 ∨ ¬ (((listR s).1.length : Nat) : Int) = 1) : toE s = 3 := by unfold toE; rw [if_neg (by omega)]
theorem toE_f {s : List UInt8} (h : (listR s).2 = 0 ∧ (((listR s).1.length : Nat) : Int) = 1) : toE s = 0 := by unfold toE; rw [if_pos (by omega)]
/-- commands that may be judged: of bounded size, with a text where one is read -/
inductive Cmd.Rd : Cmd → Prop where
  | mk {c : Cmd} (h1 : c.kind = 5 ∨ c.kind = 6 → 0 < c.texts.length) (h2 : c.texts.length ≤ 1048576) (h3 : ∀ s ∈ c.texts, s.length ≤ 1048576) (h4 : ∀ x ∈ c.thn, Cmd.Rd x) (h5 : ∀ x ∈ c.els, Cmd.Rd x) : Cmd.Rd c
theorem Cmd.Rd.inv {c : Cmd} (h : c.Rd) : (c.kind = 5 ∨ c.kind = 6 → 0 < c.texts.length) ∧ c.texts.length ≤ 1048576 ∧ (∀ s ∈ c.texts, s.length ≤ 1048576) ∧ (∀ x ∈ c.thn, Cmd.Rd x) ∧ (∀ x ∈ c.els, Cmd.Rd x) := by
  cases h; exact ⟨by assumption, by assumption, by assumption, by assumption, by assumption⟩
attribute [local go_sem] cmdA tstA icast8 adsV List.cons_append List.nil_append strD in
set_option maxRecDepth 4000 in
set_option maxHeartbeats 1000000 in
theorem jcmd_s (T : Tbl) (hL : LibT T) (hF : T 2 = flagT.map D.str) (bj t : Nat) (ks : List (List UInt8)) (c : Cmd) (ok : c.Ok) (rd : c.Rd) (i1 : ∀ (F : List (Nat × Ob)) (L : List Nat), AC Tryz.prog T 58 [.ptr bj 1 0 0, .d (.slc 12 (thnD c))] ⟨(bj, ⟨1, 1, [[.mp t ks]]⟩) :: F, t :: L⟩ (fun x h => x = .ret (.d (.int .i64 (cmdEL ks c.thn))) ∧ h = ⟨(bj, ⟨1, 1, [[.mp t ks]]⟩) :: F, t :: L⟩)) (i2 : ∀ (F : List (Nat × Ob)) (L : List Nat), AC Tryz.prog T 58 [.ptr bj 1 0 0, .d (.slc 12 (elsD c))] ⟨(bj, ⟨1, 1, [[.mp t ks]]⟩) :: F, t :: L⟩ (fun x h => x = .ret (.d (.int .i64 (cmdEL ks c.els))) ∧ h = ⟨(bj, ⟨1, 1, [[.mp t ks]]⟩) :: F, t :: L⟩)) (F : List (Nat × Ob)) (L : List Nat) : AC Tryz.prog T 115 [.ptr bj 1 0 0, .agg (cmdA c)] (⟨(bj, ⟨1, 1, [[.mp t ks]]⟩) :: F, t :: L⟩) (fun x h => x = .ret (.d (.int .i64 (cmdE ks c))) ∧ h = ⟨(bj, ⟨1, 1, [[.mp t ks]]⟩) :: F, t :: L⟩) := by
 refine ⟨Tryz.call115, ACalls.enterS Tryz.func115 rfl Tryz.ntmps115 rfl fun hb => ?_⟩
 obtain ⟨s1, s2, s3, s4, s5, s6⟩ := ok.inv
 obtain ⟨r1, r2, r3, _, _⟩ := rd.inv
 simp only [go_sem, Tryz.results115]
 refine Zx ?_
 try simp only [go_sem]
 (repeat (with_reducible refine And.intro ZS ?_))
 intro b3
 first | intro fb3 | have fb3 := True.intro
 try simp only [freshL] at fb3
 try simp only [go_sem, fb3]
 (repeat (with_reducible refine And.intro ZS ?_))
 refine Zs ?_
 refine Zp 37 ?_
 refine AWp.block ?_
 refine Zp 15 ?_
 refine Zc (fun hc0 => ?_) fun hc0 => ?_
 ·
  refine Zp 4 ?_
  refine AWp.ret ?_
  try simp only [thenQ, blkQ]
  apply endW_r [b3] [] [bj] [t] (by (try simp only [go_sem, fb3]); rfl)
  · rw [cmdE_1 hc0]
    exact ⟨rfl, by first | rfl | (simp only [go_sem, fb3]; done) | (simp only [go_sem, fb3]; rfl)⟩
  · simp [LeA, LeD]
 refine Zp 23 ?_
 refine Zc (fun hc1 => ?_) fun hc1 => ?_
 ·
  refine Zs ?_
  refine Zx ?_
  try simp only [go_sem, fb3]
  (repeat (with_reducible refine And.intro ZS ?_))
  refine DW.acp [bj] [t] rfl rfl rfl rfl (by (try simp only [go_sem, fb3]); rfl) rfl (jtest_c T bj t ks c.test s2 _ _) ?_
  rintro _ _ ⟨rfl, rfl⟩
  try simp only [go_sem, fb3]
  (repeat (with_reducible refine And.intro ZS ?_))
  refine Zm 7 ?_
  refine Zp 23 ?_
  refine Zc (fun hc2 => ?_) fun hc2 => ?_
  ·
   refine Zp 4 ?_
   refine AWp.ret ?_
   try simp only [thenQ, blkQ]
   apply endW_r [b3] [] [bj] [t] (by (try simp only [go_sem, fb3]); rfl)
   · rw [cmdE_2t hc1 hc2]
     exact ⟨rfl, by first | rfl | (simp only [go_sem, fb3]; done) | (simp only [go_sem, fb3]; rfl)⟩
   · simp [LeA, LeD]
  have hc2 : tstE ks c.test = 0 := by omega
  refine Zk ?_
  refine Zs ?_
  refine Zx ?_
  try simp only [go_sem, fb3]
  (repeat (with_reducible refine And.intro ZS ?_))
  refine DW.acp [bj] [t] rfl rfl rfl rfl (by (try simp only [go_sem, fb3]); rfl) rfl (i1 _ _) ?_
  rintro _ _ ⟨rfl, rfl⟩
  try simp only [go_sem, fb3]
  (repeat (with_reducible refine And.intro ZS ?_))
  refine Zm 11 ?_
  refine Zp 23 ?_
  refine Zc (fun hc3 => ?_) fun hc3 => ?_
  ·
   refine Zp 4 ?_
   refine AWp.ret ?_
   try simp only [thenQ, blkQ]
   apply endW_r [b3] [] [bj] [t] (by (try simp only [go_sem, fb3]); rfl)
   · rw [cmdE_2a hc1 hc2 hc3]
     exact ⟨rfl, by first | rfl | (simp only [go_sem, fb3]; done) | (simp only [go_sem, fb3]; rfl)⟩
   · simp [LeA, LeD]
  have hc3 : cmdEL ks c.thn = 0 := by omega
  refine Zk ?_
  refine Zx ?_
  try simp only [go_sem, fb3]
  (repeat (with_reducible refine And.intro ZS ?_))
  refine DW.acp [bj] [t] rfl rfl rfl rfl (by (try simp only [go_sem, fb3]); rfl) rfl (i2 _ _) ?_
  rintro _ _ ⟨rfl, rfl⟩
  try simp only [go_sem, fb3]
  (repeat (with_reducible refine And.intro ZS ?_))
  refine Zm 4 ?_
  refine AWp.ret ?_
  try simp only [thenQ, blkQ]
  apply endW_r [b3] [] [bj] [t] (by (try simp only [go_sem, fb3]); rfl)
  · rw [cmdE_2b hc1 hc2 hc3]
    exact ⟨rfl, by first | rfl | (simp only [go_sem, fb3]; done) | (simp only [go_sem, fb3]; rfl)⟩
  · simp [LeA, LeD]
 refine Zp 23 ?_
 refine Zc (fun hc4 => ?_) fun hc4 => ?_
 ·
  refine Zs ?_
  refine Zx ?_
  try simp only [go_sem, fb3]
  (repeat (with_reducible refine And.intro ZS ?_))
  refine DW.acp [bj] [t] rfl rfl rfl rfl (by (try simp only [go_sem, fb3]); rfl) rfl (need_c T bj t ks fileT _ _) ?_
  rintro _ _ ⟨rfl, rfl⟩
  try simp only [go_sem, fb3]
  (repeat (with_reducible refine And.intro ZS ?_))
  refine Zm 6 ?_
  refine Zp 11 ?_
  refine Zc (fun hc5 => ?_) fun hc5 => ?_
  ·
   refine Zp 2 ?_
   refine AWp.ret ?_
   try simp only [thenQ, blkQ]
   apply endW_r [b3] [] [bj] [t] (by (try simp only [go_sem, fb3]); rfl)
   · rw [cmdE_5n hc4 hc5]
     exact ⟨rfl, by first | rfl | (simp only [go_sem, fb3]; done) | (simp only [go_sem, fb3]; rfl)⟩
   · simp [LeA, LeD]
  have hc5 : needE ks fileT = 0 := by omega
  have h0 : 0 < c.texts.length := r1 (.inl hc4)
  have hz0 := r3 _ (List.getElem_mem h0)
  have zf1 := fun d0_ => map_getD strD c.texts 0 d0_ h0
  refine Zk ?_
  refine Zx ?_
  try simp only [go_sem, fb3, zf1]
  (repeat (with_reducible refine And.intro ZS ?_))
  refine DW.pcr rfl rfl rfl rfl (Name_c T _ (by omega)) rfl rfl ?_
  try simp only [go_sem, fb3, zf1]
  (repeat (with_reducible refine And.intro ZS ?_))
  refine Zm 2 ?_
  refine AWp.ret ?_
  try simp only [thenQ, blkQ]
  apply endW_r [b3] [] [bj] [t] (by (try simp only [go_sem, fb3, zf1]); rfl)
  · rw [cmdE_5 hc4 hc5 h0]
    exact ⟨rfl, by first | rfl | (simp only [go_sem, fb3, zf1]; done) | (simp only [go_sem, fb3, zf1]; rfl)⟩
  · simp [LeA, LeD]
 refine Zp 23 ?_
 refine Zc (fun hc6 => ?_) fun hc6 => ?_
 ·
  refine Zx ?_
  try simp only [go_sem, fb3]
  (repeat (with_reducible refine And.intro ZS ?_))
  refine DW.acp [bj] [t] rfl rfl rfl rfl (by (try simp only [go_sem, fb3]); rfl) rfl (need_c T bj t ks rejT _ _) ?_
  rintro _ _ ⟨rfl, rfl⟩
  try simp only [go_sem, fb3]
  (repeat (with_reducible refine And.intro ZS ?_))
  refine Zm 4 ?_
  refine AWp.ret ?_
  try simp only [thenQ, blkQ]
  apply endW_r [b3] [] [bj] [t] (by (try simp only [go_sem, fb3]); rfl)
  · rw [cmdE_7 hc6]
    exact ⟨rfl, by first | rfl | (simp only [go_sem, fb3]; done) | (simp only [go_sem, fb3]; rfl)⟩
  · simp [LeA, LeD]
 refine Zs ?_
 refine Zp 23 ?_
 simp only [go_sem]
 apply Za (z := (_ || _)) 7 53
 ·
  refine AWp.cond _ rfl (fun hc7 => ?_) fun hc7 => ?_
  rotate_left
  ·
   refine Zr (thenQ_n ?_)
   refine Zf 7 8 (.e ⟨EqS.bo (or_f hc7 rfl), ⟨rfl⟩⟩)
  refine AWp.skip (thenQ_n ?_)
  refine Zf 7 8 (.e ⟨EqS.bo (or_t hc7), ⟨rfl⟩⟩)
 simp only [go_sem]
 refine Zc (fun hc8 => ?_) fun hc8 => ?_
 ·
  have hk8 : c.kind = 8 ∨ c.kind = 9 := by first | exact .inl hc7 | exact .inr hc8 | omega
  refine Zs ?_
  refine Zx ?_
  try simp only [go_sem, fb3]
  (repeat (with_reducible refine And.intro ZS ?_))
  refine DW.acp [bj] [t] rfl rfl rfl rfl (by (try simp only [go_sem, fb3]); rfl) rfl (need_c T bj t ks imapT _ _) ?_
  rintro _ _ ⟨rfl, rfl⟩
  try simp only [go_sem, fb3]
  (repeat (with_reducible refine And.intro ZS ?_))
  refine Zm 6 ?_
  refine Zp 11 ?_
  refine Zc (fun hc9 => ?_) fun hc9 => ?_
  ·
   refine Zp 2 ?_
   refine AWp.ret ?_
   try simp only [thenQ, blkQ]
   apply endW_r [b3] [] [bj] [t] (by (try simp only [go_sem, fb3]); rfl)
   · rw [cmdE_8n hk8 hc9]
     exact ⟨rfl, by first | rfl | (simp only [go_sem, fb3]; done) | (simp only [go_sem, fb3]; rfl)⟩
   · simp [LeA, LeD]
  have hc9 : needE ks imapT = 0 := by omega
  refine Zk ?_
  refine Zx ?_
  try simp only [go_sem, fb3]
  (repeat (with_reducible refine And.intro ZS ?_))
  refine DW.pcr rfl rfl rfl rfl (jFlags_c T hF _ (by omega)) rfl rfl ?_
  try simp only [go_sem, fb3]
  (repeat (with_reducible refine And.intro ZS ?_))
  refine Zm 8 ?_
  refine Zp 1 ?_
  refine AWp.ret ?_
  try simp only [thenQ, blkQ]
  apply endW_r [b3] [] [bj] [t] (by (try simp only [go_sem, fb3]); rfl)
  · rw [cmdE_8 hk8 hc9]
    exact ⟨rfl, by first | rfl | (simp only [go_sem, fb3]; done) | (simp only [go_sem, fb3]; rfl)⟩
  · simp [LeA, LeD]
 refine Zp 18 ?_
 refine Zc (fun hc10 => ?_) fun hc10 => ?_
 ·
  have h0 : 0 < c.texts.length := r1 (.inr hc10)
  have hz0 := r3 _ (List.getElem_mem h0)
  have zf2 := fun d0_ => map_getD strD c.texts 0 d0_ h0
  refine Zx ?_
  try simp only [go_sem, fb3, zf2]
  (repeat (with_reducible refine And.intro ZS ?_))
  refine DW.pcr rfl rfl rfl rfl (List_c T hL _) rfl rfl ?_
  try simp only [go_sem, fb3, zf2]
  (repeat (with_reducible refine And.intro ZS ?_))
  refine Zm 6 ?_
  refine Zp 256 ?_
  refine Zc (fun hc11 => ?_) fun hc11 => ?_
  ·
   refine Zp 1 ?_
   refine AWp.ret ?_
   try simp only [thenQ, blkQ]
   apply endW_r [b3] [] [bj] [t] (by (try simp only [go_sem, fb3, zf2]); rfl)
   · rw [cmdE_6 hc10 h0, toE_t hc11]
     exact ⟨rfl, by first | rfl | (simp only [go_sem, fb3, zf2]; done) | (simp only [go_sem, fb3, zf2]; rfl)⟩
   · simp [LeA, LeD]
  refine AWp.skip (blkQ_n (thenQ_n ?_))
  refine Zp 1 ?_
  refine AWp.ret ?_
  try simp only [thenQ, blkQ]
  apply endW_r [b3] [] [bj] [t] (by (try simp only [go_sem, fb3, zf2]); rfl)
  · rw [cmdE_6 hc10 h0, toE_f hc11]
    exact ⟨rfl, by first | rfl | (simp only [go_sem, fb3, zf2]; done) | (simp only [go_sem, fb3, zf2]; rfl)⟩
  · simp [LeA, LeD]
 refine AWp.skip (blkQ_n (thenQ_n ?_))
 refine Zp 2 ?_
 refine AWp.ret ?_
 try simp only [thenQ, blkQ]
 apply endW_r [b3] [] [bj] [t] (by (try simp only [go_sem, fb3]); rfl)
 · rw [cmdE_o hc0 hc1 hc4 hc6 hc8.1 hc8.2 hc10]
   exact ⟨rfl, by first | rfl | (simp only [go_sem, fb3]; done) | (simp only [go_sem, fb3]; rfl)⟩
 · simp [LeA, LeD]
attribute [local go_sem] cmdA tstA tstD cmdD icast8 List.cons_append List.nil_append in
set_option maxRecDepth 4000 in
set_option maxHeartbeats 1000000 in
theorem jall_s (T : Tbl) (bj t : Nat) (ks : List (List UInt8)) (l : List Cmd) (hll : l.length * 208 ≤ 140737488355328) (ih : ∀ y ∈ l, ∀ (F : List (Nat × Ob)) (L : List Nat), AC Tryz.prog T 115 [.ptr bj 1 0 0, .agg (cmdA y)] ⟨(bj, ⟨1, 1, [[.mp t ks]]⟩) :: F, t :: L⟩ (fun x h => x = .ret (.d (.int .i64 (cmdE ks y))) ∧ h = ⟨(bj, ⟨1, 1, [[.mp t ks]]⟩) :: F, t :: L⟩)) (F : List (Nat × Ob)) (L : List Nat) : AC Tryz.prog T 58 [.ptr bj 1 0 0, .d (.slc 12 (l.map cmdD))] (⟨(bj, ⟨1, 1, [[.mp t ks]]⟩) :: F, t :: L⟩) (fun x h => x = .ret (.d (.int .i64 (cmdEL ks l))) ∧ h = ⟨(bj, ⟨1, 1, [[.mp t ks]]⟩) :: F, t :: L⟩) := by
 refine ⟨Tryz.call58, ACalls.enterS Tryz.func58 rfl Tryz.ntmps58 rfl fun hb => ?_⟩
 simp only [go_sem, Tryz.results58]
 refine Zp 3 ?_
 refine Zs ?_
 refine Zp 29 ?_
 refine AWp.block ?_
 simp only [go_sem]
 refine Zl 7 8 (fun n lc hc => ∃ (k : Nat), n = l.length - k ∧ EqS lc [(10, .d (.int .i64 (k : Nat)))] ∧ EqS hc (⟨(bj, ⟨1, 1, [[.mp t ks]]⟩) :: F, t :: L⟩) ∧ (k ≤ l.length) ∧ (cmdEL ks l = cmdEL ks (l.drop k))) ?_ ?_
 · refine ⟨_, 0, rfl, ZE, ZE, ?_, ?_⟩
   all_goals (first | omega | rfl)
 rintro _ _ _ ⟨k, rfl, ⟨rfl⟩, ⟨rfl⟩, m1, m2⟩
 simp only [go_sem]
 refine Zp 31 ?_
 refine Zs ?_
 refine Zc (fun hc0 => ?_) fun hc0 => ?_
 ·
  have hlt : k < l.length := by omega
  have hki : (k : Int) < (l.length : Int) := by omega
  have zf1 := fun d0_ => map_getD cmdD l k d0_ hlt
  refine Zk ?_
  refine Zs ?_
  refine AWp.block ?_
  refine Zx ?_
  try simp only [go_sem, zf1, hki]
  (repeat (with_reducible refine And.intro ZS ?_))
  intro b6
  first | intro fb6 | have fb6 := True.intro
  try simp only [freshL] at fb6
  try simp only [go_sem, zf1, hki, fb6]
  (repeat (with_reducible refine And.intro ZS ?_))
  refine Zx ?_
  try simp only [go_sem, zf1, hki, fb6]
  (repeat (with_reducible refine And.intro ZS ?_))
  refine DW.acp [bj] [t] rfl rfl rfl rfl (by (try simp only [go_sem, zf1, hki, fb6]); rfl) rfl (ih _ (List.getElem_mem hlt) _ _) ?_
  rintro _ _ ⟨rfl, rfl⟩
  try simp only [go_sem, zf1, hki, fb6]
  (repeat (with_reducible refine And.intro ZS ?_))
  refine Zm 61 ?_
  refine Zp 95 ?_
  refine Zc (fun hc1 => ?_) fun hc1 => ?_
  ·
   refine Zp 2 ?_
   refine AWp.ret ?_
   try simp only [thenQ, blkQ]
   apply endW_r [b6] [] [bj] [t] (by (try simp only [go_sem, zf1, hki, fb6]); rfl)
   · rw [m2, cmdEL_t hlt hc1]
     exact ⟨rfl, by first | rfl | (simp only [go_sem, zf1, hki, fb6]; done) | (simp only [go_sem, zf1, hki, fb6]; rfl)⟩
   · simp [LeA, LeD]
  have hz : cmdE ks (l[k]) = 0 := by omega
  refine AWp.skip (blkQ_n (thenQ_n ?_))
  refine Zr (thenQ_n ?_)
  refine Ze 13 16 [b6] [] [bj] [] (.e ⟨_, ZM, k + 1, rfl, ZE, ZE, ?_, ?_⟩)
  · omega
  · rw [m2, cmdEL_f hlt hz]
 refine AWp.exit (thenQ_e (thenQ_e (blkQ_e (thenQ_n ?_))))
 refine Zm 0 ?_
 refine Zp 1 ?_
 refine AWp.ret ?_
 try simp only [thenQ, blkQ]
 apply endW_r [] [] [bj] [t] (by (try simp only [go_sem]); rfl)
 · rw [m2, cmdEL_e (by omega)]
   exact ⟨rfl, by first | rfl | (simp only [go_sem, ]; done) | (simp only [go_sem, ]; rfl)⟩
 · simp [LeA, LeD]
theorem jcmd_c (T : Tbl) (hL : LibT T) (hF : T 2 = flagT.map D.str)  (bj t : Nat) (ks : List (List UInt8)) (c : Cmd) (ok : c.Ok) (rd : c.Rd) (F : List (Nat × Ob)) (L : List Nat) : AC Tryz.prog T 115 [.ptr bj 1 0 0, .agg (cmdA c)] ⟨(bj, ⟨1, 1, [[.mp t ks]]⟩) :: F, t :: L⟩ (fun x h => x = .ret (.d (.int .i64 (cmdE ks c))) ∧ h = ⟨(bj, ⟨1, 1, [[.mp t ks]]⟩) :: F, t :: L⟩) := by
  induction c using Cmd.ind generalizing F L with
  | h c i1 i2 =>
    obtain ⟨s1, s2, s3, s4, s5, s6⟩ := ok.inv
    obtain ⟨r1, r2, r3, r4, r5⟩ := rd.inv
    refine jcmd_s T hL hF bj t ks c ok rd (fun F L => ?_) (fun F L => ?_) F L
    · rw [thnD_eq]; exact jall_s T bj t ks _ s3 (fun x hx F L => i1 x hx (s5 x hx) (r4 x hx) F L) F L
    · rw [elsD_eq]; exact jall_s T bj t ks _ s4 (fun x hx F L => i2 x hx (s6 x hx) (r5 x hx) F L) F L
theorem jall_c (T : Tbl) (hL : LibT T) (hF : T 2 = flagT.map D.str)  (bj t : Nat) (ks : List (List UInt8)) (l : List Cmd) (hll : l.length * 208 ≤ 140737488355328) (ok : ∀ x ∈ l, x.Ok) (rd : ∀ x ∈ l, x.Rd) (F : List (Nat × Ob)) (L : List Nat) : AC Tryz.prog T 58 [.ptr bj 1 0 0, .d (.slc 12 (l.map cmdD))] ⟨(bj, ⟨1, 1, [[.mp t ks]]⟩) :: F, t :: L⟩ (fun x h => x = .ret (.d (.int .i64 (cmdEL ks l))) ∧ h = ⟨(bj, ⟨1, 1, [[.mp t ks]]⟩) :: F, t :: L⟩) :=
  jall_s T bj t ks l hll (fun x hx F L => jcmd_c T hL hF bj t ks x (ok x hx) (rd x hx) F L) F L
end Go.Proofs.YtidldcfpmehpiaaGreatDoor

namespace Go.Proofs.YtidldcfpmehpiaaGreatDoor
set_option linter.unusedSimpArgs false
set_option linter.unusedVariables false
theorem toE_n {s : List UInt8} (h : listS s = none) : toE s = 3 := by
  refine toE_t (.inl ?_)
  unfold listR; rw [h]; split <;> (intro h9; cases h9)
theorem toE_s {s : List UInt8} {l : List Ad} (h : listS s = some l) (h2 : ¬ (l.length : Int) = 1 ∨ 2000 < (s.length : Int)) : toE s = 3 := by
  refine toE_t ?_
  unfold listR; rw [h]; split
  · exact .inl (by intro h9; cases h9)
  · dsimp only; split
    · exact .inl (by intro h9; cases h9)
    · exact .inr (by dsimp only; omega)
theorem toE_z {s : List UInt8} {l : List Ad} (h : listS s = some l) (h2 : (l.length : Int) = 1 ∧ ¬ 2000 < (s.length : Int)) : toE s = 0 := by
  refine toE_f ?_
  unfold listR; rw [h, if_neg (by omega)]; dsimp only; rw [if_neg (by omega)]; exact ⟨rfl, h2.1⟩
attribute [local go_sem] tstA tstD cmdD icast8 List.cons_append List.nil_append adsV adsD strD in
set_option maxRecDepth 4000 in
set_option maxHeartbeats 1000000 in
theorem lallow_s (T : Tbl) (hL : LibT T) (ks : List (List UInt8)) (hkn : ks.length ≤ 1048576) (l : List Cmd) (hll : l.length * 208 ≤ 140737488355328) (ok : ∀ x ∈ l, x.Ok) (rd : ∀ x ∈ l, x.Rd) (i1 : ∀ x ∈ l, PC Tryz.prog T 64 [.d (.slc 1 (ks.map strD)), .d (.slc 12 (thnD x))] (.d (.int .i64 (cmdEL ks x.thn)))) (i2 : ∀ x ∈ l, PC Tryz.prog T 64 [.d (.slc 1 (ks.map strD)), .d (.slc 12 (elsD x))] (.d (.int .i64 (cmdEL ks x.els)))) : PC Tryz.prog T 64 [.d (.slc 1 (ks.map strD)), .d (.slc 12 (l.map cmdD))] (.d (.int .i64 (cmdEL ks l))) := by
 refine ⟨Tryz.call64, PCall.enterS Tryz.func64 rfl Tryz.ntmps64 rfl fun hb => ?_⟩
 simp only [go_sem, Tryz.results64]
 refine Zp 3 ?_
 refine Zs ?_
 refine Zp 7 ?_
 refine AWp.block ?_
 simp only [go_sem]
 refine Zl 3 4 (fun n lc hc => ∃ (k : Nat), n = l.length - k ∧ EqS lc [(5, .d (.int .i64 (k : Nat)))] ∧ EqS hc (⟨[], []⟩) ∧ (k ≤ l.length) ∧ (cmdEL ks l = cmdEL ks (l.drop k))) ?_ ?_
 · refine ⟨_, 0, rfl, ZE, ZE, ?_, ?_⟩
   all_goals (first | omega | rfl)
 rintro _ _ _ ⟨k, rfl, ⟨rfl⟩, ⟨rfl⟩, m1, m2⟩
 simp only [go_sem]
 refine Zs ?_
 refine Zp 71 ?_
 refine Zc (fun hc0 => ?_) fun hc0 => ?_
 ·
  have hlt : k < l.length := by omega
  have hki : (k : Int) < (l.length : Int) := by omega
  have okk := ok _ (List.getElem_mem hlt)
  obtain ⟨s1, s2, s3, s4, s5, s6⟩ := okk.inv
  obtain ⟨r1, r2, r3, _, _⟩ := (rd _ (List.getElem_mem hlt)).inv
  have zf1 := fun d0_ => map_getD cmdD l k d0_ hlt
  refine Zk ?_
  refine Zs ?_
  refine AWp.block ?_
  refine Zx ?_
  try simp only [go_sem, zf1, hki]
  (repeat (with_reducible refine And.intro ZS ?_))
  intro b6
  first | intro fb6 | have fb6 := True.intro
  try simp only [freshL] at fb6
  try simp only [go_sem, zf1, hki, fb6]
  (repeat (with_reducible refine And.intro ZS ?_))
  refine Zm 15 ?_
  refine Zp 31 ?_
  refine Zs ?_
  refine Zp 95 ?_
  refine AWp.block ?_
  refine Zp 127 ?_
  refine Zc (fun hc1 => ?_) fun hc1 => ?_
  ·
   refine Zr (blkQ_n (thenQ_n ?_))
   refine Zp 279 ?_
   refine Zc (fun hc13 => ?_) fun hc13 => ?_
   ·
    have hz : ¬ cmdE ks (l[k]) = 0 := by rw [cmdE_1 hc1]; first | exact hc13 | decide | omega
    refine Zp 4 ?_
    refine AWp.ret ?_
    try simp only [go_sem, zf1, hki, fb6]
    rw [m2, cmdEL_t hlt hz, cmdE_1 hc1]; try simp [LeA, LeD]
   first | omega | simp at hc13
  refine Zp 191 ?_
  refine Zc (fun hc2 => ?_) fun hc2 => ?_
  ·
   refine Zx ?_
   try simp only [go_sem, zf1, hki, fb6]
   (repeat (with_reducible refine And.intro ZS ?_))
   refine DW.pcr rfl rfl rfl rfl (tallow_c T ks hkn _ s2) rfl rfl ?_
   try simp only [go_sem, zf1, hki, fb6]
   (repeat (with_reducible refine And.intro ZS ?_))
   refine Zm 31 ?_
   refine Zs ?_
   refine Zp 95 ?_
   refine Zc (fun hc3 => ?_) fun hc3 => ?_
   ·
    refine Zq fun K_ k_ => ?_
    try simp only [go_sem, zf1, hki, fb6]
    (repeat (with_reducible refine And.intro ZS ?_))
    refine DW.pcr rfl rfl rfl rfl (i1 _ (List.getElem_mem hlt)) rfl rfl ?_
    try simp only [go_sem, zf1, hki, fb6]
    (repeat (with_reducible refine And.intro ZS ?_))
    refine k_ _ _ (thenQ_n ?_)
    refine Zm 31 ?_
    refine Zp 95 ?_
    refine Zc (fun hc4 => ?_) fun hc4 => ?_
    ·
     refine Zq fun K_ k_ => ?_
     try simp only [go_sem, zf1, hki, fb6]
     (repeat (with_reducible refine And.intro ZS ?_))
     refine DW.pcr rfl rfl rfl rfl (i2 _ (List.getElem_mem hlt)) rfl rfl ?_
     try simp only [go_sem, zf1, hki, fb6]
     (repeat (with_reducible refine And.intro ZS ?_))
     refine k_ _ _ (blkQ_n (thenQ_n ?_))
     refine Zm 23 ?_
     refine Zp 47 ?_
     refine Zc (fun hc13 => ?_) fun hc13 => ?_
     ·
      have hz : ¬ cmdE ks (l[k]) = 0 := by rw [cmdE_2b hc2 hc3 hc4]; first | exact hc13 | decide | omega
      refine Zp 4 ?_
      refine AWp.ret ?_
      try simp only [go_sem, zf1, hki, fb6]
      rw [m2, cmdEL_t hlt hz, cmdE_2b hc2 hc3 hc4]; try simp [LeA, LeD]
     have hz : cmdE ks (l[k]) = 0 := by rw [cmdE_2b hc2 hc3 hc4]; first | done | exact hc13 | omega
     refine AWp.skip (blkQ_n (thenQ_n ?_))
     refine Zr (thenQ_n ?_)
     refine Ze 3 4 [b6] [] [] [] (.e ⟨_, ZM, k + 1, rfl, ZE, ZE, ?_, ?_⟩)
     · omega
     · rw [m2, cmdEL_f hlt hz]
    refine AWp.skip (blkQ_n (thenQ_n ?_))
    refine Zp 151 ?_
    refine Zc (fun hc13 => ?_) fun hc13 => ?_
    ·
     have hz : ¬ cmdE ks (l[k]) = 0 := by rw [cmdE_2a hc2 hc3 hc4]; first | exact hc13 | decide | omega
     refine Zp 4 ?_
     refine AWp.ret ?_
     try simp only [go_sem, zf1, hki, fb6]
     rw [m2, cmdEL_t hlt hz, cmdE_2a hc2 hc3 hc4]; try simp [LeA, LeD]
    have hz : cmdE ks (l[k]) = 0 := by rw [cmdE_2a hc2 hc3 hc4]; first | done | exact hc13 | omega
    refine AWp.skip (blkQ_n (thenQ_n ?_))
    refine Zr (thenQ_n ?_)
    refine Ze 3 4 [b6] [] [] [] (.e ⟨_, ZM, k + 1, rfl, ZE, ZE, ?_, ?_⟩)
    · omega
    · rw [m2, cmdEL_f hlt hz]
   refine Zk ?_
   refine Zp 159 ?_
   refine Zc (fun hc4 => ?_) fun hc4 => ?_
   ·
    exact absurd hc4 hc3
   refine AWp.skip (blkQ_n (thenQ_n ?_))
   refine Zp 151 ?_
   refine Zc (fun hc13 => ?_) fun hc13 => ?_
   ·
    have hz : ¬ cmdE ks (l[k]) = 0 := by rw [cmdE_2t hc2 hc3]; first | exact hc13 | decide | omega
    refine Zp 4 ?_
    refine AWp.ret ?_
    try simp only [go_sem, zf1, hki, fb6]
    rw [m2, cmdEL_t hlt hz, cmdE_2t hc2 hc3]; try simp [LeA, LeD]
   have hz : cmdE ks (l[k]) = 0 := by rw [cmdE_2t hc2 hc3]; first | done | exact hc13 | omega
   refine AWp.skip (blkQ_n (thenQ_n ?_))
   refine Zr (thenQ_n ?_)
   refine Ze 3 4 [b6] [] [] [] (.e ⟨_, ZM, k + 1, rfl, ZE, ZE, ?_, ?_⟩)
   · omega
   · rw [m2, cmdEL_f hlt hz]
  refine Zp 191 ?_
  refine Zc (fun hc5 => ?_) fun hc5 => ?_
  ·
   have h0 : 0 < (l[k]).texts.length := r1 (.inl hc5)
   have hz0 := r3 _ (List.getElem_mem h0)
   have zf2 := fun d0_ => map_getD strD (l[k]).texts 0 d0_ h0
   refine Z1 31 (required_c T ks fileT hkn) ?_
   refine Zp 95 ?_
   refine Zc (fun hc6 => ?_) fun hc6 => ?_
   ·
    refine Zq fun K_ k_ => ?_
    try simp only [go_sem, zf1, hki, fb6, zf2]
    (repeat (with_reducible refine And.intro ZS ?_))
    refine DW.pcr rfl rfl rfl rfl (BoxName_c T _ (by omega)) rfl rfl ?_
    try simp only [go_sem, zf1, hki, fb6, zf2]
    (repeat (with_reducible refine And.intro ZS ?_))
    refine k_ _ _ (blkQ_n (thenQ_n ?_))
    refine Zm 23 ?_
    refine Zp 47 ?_
    refine Zc (fun hc13 => ?_) fun hc13 => ?_
    ·
     have hz : ¬ cmdE ks (l[k]) = 0 := by rw [cmdE_5 hc5 hc6 h0]; first | exact hc13 | decide | omega
     refine Zp 4 ?_
     refine AWp.ret ?_
     try simp only [go_sem, zf1, hki, fb6, zf2]
     rw [m2, cmdEL_t hlt hz, cmdE_5 hc5 hc6 h0]; try simp [LeA, LeD]
    have hz : cmdE ks (l[k]) = 0 := by rw [cmdE_5 hc5 hc6 h0]; first | done | exact hc13 | omega
    refine AWp.skip (blkQ_n (thenQ_n ?_))
    refine Zr (thenQ_n ?_)
    refine Ze 3 4 [b6] [] [] [] (.e ⟨_, ZM, k + 1, rfl, ZE, ZE, ?_, ?_⟩)
    · omega
    · rw [m2, cmdEL_f hlt hz]
   refine AWp.skip (blkQ_n (thenQ_n ?_))
   refine Zp 151 ?_
   refine Zc (fun hc13 => ?_) fun hc13 => ?_
   ·
    have hz : ¬ cmdE ks (l[k]) = 0 := by rw [cmdE_5n hc5 hc6]; first | exact hc13 | decide | omega
    refine Zp 4 ?_
    refine AWp.ret ?_
    try simp only [go_sem, zf1, hki, fb6, zf2]
    rw [m2, cmdEL_t hlt hz, cmdE_5n hc5 hc6]; try simp [LeA, LeD]
   have hz : cmdE ks (l[k]) = 0 := by rw [cmdE_5n hc5 hc6]; first | done | exact hc13 | omega
   refine AWp.skip (blkQ_n (thenQ_n ?_))
   refine Zr (thenQ_n ?_)
   refine Ze 3 4 [b6] [] [] [] (.e ⟨_, ZM, k + 1, rfl, ZE, ZE, ?_, ?_⟩)
   · omega
   · rw [m2, cmdEL_f hlt hz]
  refine Zp 191 ?_
  refine Zc (fun hc7 => ?_) fun hc7 => ?_
  ·
   refine Zq fun K_ k_ => ?_
   try simp only [go_sem, zf1, hki, fb6]
   (repeat (with_reducible refine And.intro ZS ?_))
   refine DW.pcr rfl rfl rfl rfl (required_c T ks rejT hkn) rfl rfl ?_
   try simp only [go_sem, zf1, hki, fb6]
   (repeat (with_reducible refine And.intro ZS ?_))
   refine k_ _ _ (blkQ_n (thenQ_n ?_))
   refine Zm 23 ?_
   refine Zp 47 ?_
   refine Zc (fun hc13 => ?_) fun hc13 => ?_
   ·
    have hz : ¬ cmdE ks (l[k]) = 0 := by rw [cmdE_7 hc7]; first | exact hc13 | decide | omega
    refine Zp 4 ?_
    refine AWp.ret ?_
    try simp only [go_sem, zf1, hki, fb6]
    rw [m2, cmdEL_t hlt hz, cmdE_7 hc7]; try simp [LeA, LeD]
   have hz : cmdE ks (l[k]) = 0 := by rw [cmdE_7 hc7]; first | done | exact hc13 | omega
   refine AWp.skip (blkQ_n (thenQ_n ?_))
   refine Zr (thenQ_n ?_)
   refine Ze 3 4 [b6] [] [] [] (.e ⟨_, ZM, k + 1, rfl, ZE, ZE, ?_, ?_⟩)
   · omega
   · rw [m2, cmdEL_f hlt hz]
  refine Zs ?_
  refine Zp 191 ?_
  simp only [go_sem]
  apply Za (z := (_ || _)) 63 57
  ·
   refine AWp.cond _ rfl (fun hc8 => ?_) fun hc8 => ?_
   rotate_left
   ·
    refine Zr (thenQ_n ?_)
    refine Zf 63 64 (.e ⟨EqS.bo (or_f hc8 rfl), ⟨rfl⟩⟩)
   refine AWp.skip (thenQ_n ?_)
   refine Zf 63 64 (.e ⟨EqS.bo (or_t hc8), ⟨rfl⟩⟩)
  simp only [go_sem]
  refine Zc (fun hc9 => ?_) fun hc9 => ?_
  ·
   refine Z1 31 (required_c T ks imapT hkn) ?_
   refine Zp 95 ?_
   refine Zc (fun hc10 => ?_) fun hc10 => ?_
   ·
    refine Zq fun K_ k_ => ?_
    try simp only [go_sem, zf1, hki, fb6]
    (repeat (with_reducible refine And.intro ZS ?_))
    refine DW.pcr rfl rfl rfl rfl (jFlagsOf_c T _ (by omega)) rfl rfl ?_
    try simp only [go_sem, zf1, hki, fb6]
    (repeat (with_reducible refine And.intro ZS ?_))
    refine k_ _ _ (blkQ_n (thenQ_n ?_))
    refine Zm 23 ?_
    refine Zp 47 ?_
    refine Zc (fun hc13 => ?_) fun hc13 => ?_
    ·
     have hz : ¬ cmdE ks (l[k]) = 0 := by rw [cmdE_8 hc9 hc10]; first | exact hc13 | decide | omega
     refine Zp 4 ?_
     refine AWp.ret ?_
     try simp only [go_sem, zf1, hki, fb6]
     rw [m2, cmdEL_t hlt hz, cmdE_8 hc9 hc10]; try simp [LeA, LeD]
    have hz : cmdE ks (l[k]) = 0 := by rw [cmdE_8 hc9 hc10]; first | done | exact hc13 | omega
    refine AWp.skip (blkQ_n (thenQ_n ?_))
    refine Zr (thenQ_n ?_)
    refine Ze 3 4 [b6] [] [] [] (.e ⟨_, ZM, k + 1, rfl, ZE, ZE, ?_, ?_⟩)
    · omega
    · rw [m2, cmdEL_f hlt hz]
   refine AWp.skip (blkQ_n (thenQ_n ?_))
   refine Zp 151 ?_
   refine Zc (fun hc13 => ?_) fun hc13 => ?_
   ·
    have hz : ¬ cmdE ks (l[k]) = 0 := by rw [cmdE_8n hc9 hc10]; first | exact hc13 | decide | omega
    refine Zp 4 ?_
    refine AWp.ret ?_
    try simp only [go_sem, zf1, hki, fb6]
    rw [m2, cmdEL_t hlt hz, cmdE_8n hc9 hc10]; try simp [LeA, LeD]
   have hz : cmdE ks (l[k]) = 0 := by rw [cmdE_8n hc9 hc10]; first | done | exact hc13 | omega
   refine AWp.skip (blkQ_n (thenQ_n ?_))
   refine Zr (thenQ_n ?_)
   refine Ze 3 4 [b6] [] [] [] (.e ⟨_, ZM, k + 1, rfl, ZE, ZE, ?_, ?_⟩)
   · omega
   · rw [m2, cmdEL_f hlt hz]
  refine Zp 159 ?_
  refine Zc (fun hc11 => ?_) fun hc11 => ?_
  ·
   have h0 : 0 < (l[k]).texts.length := r1 (.inr hc11)
   have hz0 := r3 _ (List.getElem_mem h0)
   have zf3 := fun d0_ => map_getD strD (l[k]).texts 0 d0_ h0
   rcases hls : listS ((l[k]).texts[0]) with _ | ads
   ·
    refine Zx ?_
    try simp only [go_sem, zf1, hki, fb6, zf3]
    (repeat (with_reducible refine And.intro ZS ?_))
    refine DW.pcr rfl rfl rfl rfl (listOf_none T hL _ (by omega) hls) rfl rfl ?_
    try simp only [go_sem, zf1, hki, fb6, zf3]
    (repeat (with_reducible refine And.intro ZS ?_))
    refine Zm 127 ?_
    refine Zp 2097175 ?_
    refine Zc (fun hc12 => ?_) fun hc12 => ?_
    ·
     refine Zr (blkQ_n (thenQ_n ?_))
     refine Zp 79 ?_
     refine Zc (fun hc13 => ?_) fun hc13 => ?_
     ·
      have hz : ¬ cmdE ks (l[k]) = 0 := by rw [cmdE_6 hc11 h0, toE_n hls]; first | exact hc13 | decide | omega
      refine Zp 4 ?_
      refine AWp.ret ?_
      try simp only [go_sem, zf1, hki, fb6, zf3]
      rw [m2, cmdEL_t hlt hz, cmdE_6 hc11 h0, toE_n hls]; try simp [LeA, LeD]
     first | omega | simp at hc13
    exact absurd hc12 (by first | (simp; done) | omega | (simp [*]; done))
   refine Zx ?_
   try simp only [go_sem, zf1, hki, fb6, zf3]
   (repeat (with_reducible refine And.intro ZS ?_))
   refine DW.pcr rfl rfl rfl rfl (listOf_some T hL _ (by omega) ads hls) rfl rfl ?_
   try simp only [go_sem, zf1, hki, fb6, zf3]
   (repeat (with_reducible refine And.intro ZS ?_))
   refine Zm 127 ?_
   refine Zp 2097175 ?_
   refine Zc (fun hc12 => ?_) fun hc12 => ?_
   ·
    refine Zr (blkQ_n (thenQ_n ?_))
    refine Zp 79 ?_
    refine Zc (fun hc13 => ?_) fun hc13 => ?_
    ·
     have hz : ¬ cmdE ks (l[k]) = 0 := by rw [cmdE_6 hc11 h0, toE_s hls (hc12.imp (fun h9 => h9.resolve_left (by simp)) id)]; first | exact hc13 | decide | omega
     refine Zp 4 ?_
     refine AWp.ret ?_
     try simp only [go_sem, zf1, hki, fb6, zf3]
     rw [m2, cmdEL_t hlt hz, cmdE_6 hc11 h0, toE_s hls (hc12.imp (fun h9 => h9.resolve_left (by simp)) id)]; try simp [LeA, LeD]
    first | omega | simp at hc13
   refine AWp.skip (blkQ_n (thenQ_n ?_))
   refine Zp 79 ?_
   refine Zc (fun hc13 => ?_) fun hc13 => ?_
   ·
    first | omega | simp at hc13
   have hz : cmdE ks (l[k]) = 0 := by rw [cmdE_6 hc11 h0, toE_z hls ⟨hc12.1.2, by omega⟩]; first | done | exact hc13 | omega
   refine AWp.skip (blkQ_n (thenQ_n ?_))
   refine Zr (thenQ_n ?_)
   refine Ze 3 4 [b6] [] [] [] (.e ⟨_, ZM, k + 1, rfl, ZE, ZE, ?_, ?_⟩)
   · omega
   · rw [m2, cmdEL_f hlt hz]
  refine AWp.skip (blkQ_n (thenQ_n ?_))
  refine Zp 151 ?_
  refine Zc (fun hc13 => ?_) fun hc13 => ?_
  ·
   first | omega | simp at hc13
  have hz : cmdE ks (l[k]) = 0 := by rw [cmdE_o hc1 hc2 hc5 hc7 hc9.1 hc9.2 hc11]; first | done | exact hc13 | omega
  refine AWp.skip (blkQ_n (thenQ_n ?_))
  refine Zr (thenQ_n ?_)
  refine Ze 3 4 [b6] [] [] [] (.e ⟨_, ZM, k + 1, rfl, ZE, ZE, ?_, ?_⟩)
  · omega
  · rw [m2, cmdEL_f hlt hz]
 refine AWp.exit (thenQ_e (thenQ_e (blkQ_e (thenQ_n ?_))))
 refine Zm 0 ?_
 refine Zp 1 ?_
 refine AWp.ret ?_
 try simp only [go_sem]
 rw [m2, cmdEL_e (by omega)]; try simp [LeA, LeD]
theorem lallow_c (T : Tbl) (hL : LibT T) (ks : List (List UInt8)) (hkn : ks.length ≤ 1048576) (l : List Cmd) (hll : l.length * 208 ≤ 140737488355328) (ok : ∀ x ∈ l, x.Ok) (rd : ∀ x ∈ l, x.Rd) : PC Tryz.prog T 64 [.d (.slc 1 (ks.map strD)), .d (.slc 12 (l.map cmdD))] (.d (.int .i64 (cmdEL ks l))) := by
  have H : ∀ c : Cmd, c.Ok → c.Rd → PC Tryz.prog T 64 [.d (.slc 1 (ks.map strD)), .d (.slc 12 (thnD c))] (.d (.int .i64 (cmdEL ks c.thn))) ∧ PC Tryz.prog T 64 [.d (.slc 1 (ks.map strD)), .d (.slc 12 (elsD c))] (.d (.int .i64 (cmdEL ks c.els))) := fun c => by
    induction c using Cmd.ind with
    | h c i1 i2 =>
      intro ok rd
      obtain ⟨s1, s2, s3, s4, s5, s6⟩ := ok.inv
      obtain ⟨_, _, _, r4, r5⟩ := rd.inv
      rw [thnD_eq, elsD_eq]
      exact ⟨lallow_s T hL ks hkn _ s3 s5 r4 (fun x hx => (i1 x hx (s5 x hx) (r4 x hx)).1) (fun x hx => (i1 x hx (s5 x hx) (r4 x hx)).2), lallow_s T hL ks hkn _ s4 s6 r5 (fun x hx => (i2 x hx (s6 x hx) (r5 x hx)).1) (fun x hx => (i2 x hx (s6 x hx) (r5 x hx)).2)⟩
  exact lallow_s T hL ks hkn l hll ok rd (fun x hx => (H x (ok x hx) (rd x hx)).1) (fun x hx => (H x (ok x hx) (rd x hx)).2)
end Go.Proofs.YtidldcfpmehpiaaGreatDoor

namespace Go.Proofs.YtidldcfpmehpiaaGreatDoor
set_option linter.unusedSimpArgs false
set_option linter.unusedVariables false
def extT : List (List UInt8) := [[102, 105, 108, 101, 105, 110, 116, 111], [114, 101, 106, 101, 99, 116], [101, 110, 118, 101, 108, 111, 112, 101], [105, 109, 97, 112, 52, 102, 108, 97, 103, 115]]
@[go_sem] theorem bd_judge : bdI Tryz.prog 121 = some ([.any], [(0, 1)]) := by kernel_rfl
/-- a script behind what it requires -/
def reqE : List (List UInt8) → List Cmd → Int
  | _, [] => 0
  | ks, c :: l => if c.kind = 1 then (if ∀ s ∈ c.texts, s ∈ extT then reqE (ks ++ c.texts) l else 7) else cmdEL ks (c :: l)
/-- P6.3 -/
def ruleE (l : List Cmd) : Int := if ¬ chkE l = 0 then chkE l else reqE [] l
theorem reqE_e {ks : List (List UInt8)} {l : List Cmd} {k : Nat} (h : l.length ≤ k) : reqE ks (l.drop k) = cmdEL ks (l.drop k) := by rw [List.drop_eq_nil_of_le h]; rfl
theorem reqE_o {ks : List (List UInt8)} {l : List Cmd} {k : Nat} (h : k < l.length) (hc : ¬ (l[k]).kind = 1) : reqE ks (l.drop k) = cmdEL ks (l.drop k) := by rw [List.drop_eq_getElem_cons h, reqE, if_neg hc]
theorem reqE_n {ks : List (List UInt8)} {l : List Cmd} {k q : Nat} (h : k < l.length) (hc : (l[k]).kind = 1) (hq : q < (l[k]).texts.length) (hn : ¬ (l[k]).texts[q] ∈ extT) : reqE ks (l.drop k) = 7 := by
  rw [List.drop_eq_getElem_cons h, reqE, if_pos hc, if_neg fun h9 => hn (h9 _ (List.getElem_mem hq))]
theorem reqE_s {ks : List (List UInt8)} {l : List Cmd} {k : Nat} (h : k < l.length) (hc : (l[k]).kind = 1) (ha : ∀ s ∈ (l[k]).texts, s ∈ extT) : reqE ks (l.drop k) = reqE (ks ++ (l[k]).texts) (l.drop (k + 1)) := by
  rw [List.drop_eq_getElem_cons h, reqE, if_pos hc, if_pos ha]
theorem drop_get0 {α β : Type} (f : α → β) (l : List α) (k : Nat) (d : β) (h : k < l.length) : ((l.drop k).map f).getD 0 d = f (l[k]) := by
  rw [List.drop_eq_getElem_cons h]; rfl
def AllX (l : List (List UInt8)) : Prop := ∀ s ∈ l, s ∈ extT
theorem AllX.s {l : List (List UInt8)} {q : Nat} (hq : q < l.length) (h : AllX (l.take q)) (hn : l[q] ∈ extT) : AllX (l.take (q + 1)) := fun s hs => by
  rw [List.take_succ_eq_append_getElem hq, List.mem_append, List.mem_singleton] at hs
  rcases hs with h9 | rfl
  · exact h s h9
  · exact hn
theorem AllX.e {l : List (List UInt8)} {q : Nat} (hq : l.length ≤ q) (h : AllX (l.take q)) : ∀ s ∈ l, s ∈ extT := by rwa [List.take_of_length_le hq] at h
theorem Same.nil : Same [] [] := fun _ => Iff.rfl
theorem Same.st {kz ks l : List (List UInt8)} {q : Nat} (hq : q < l.length) (h : Same kz (ks ++ l.take q)) : Same (addK l[q] kz) (ks ++ l.take (q + 1)) := by
  have := h.add l[q]
  rwa [List.append_assoc, ← List.take_succ_eq_append_getElem hq] at this
theorem Same.en {kz ks l : List (List UInt8)} {q : Nat} (hq : l.length ≤ q) (h : Same kz (ks ++ l.take q)) : Same kz (ks ++ l) := by rwa [List.take_of_length_le hq] at h
attribute [local go_sem] cmdD icast8 decide_true strD decide_false in
set_option maxRecDepth 4000 in
set_option maxHeartbeats 1000000 in
theorem jCheck_c (T : Tbl) (hL : LibT T) (hF : T 2 = flagT.map D.str) (hE : T 0 = extT.map D.str) (tb : Tabs T) (l : List Cmd) (hll : l.length * 208 ≤ 140737488355328) (ok : ∀ x ∈ l, x.Ok) (hl : (lsT l).length ≤ 4398046511104) (rd : chkE l = 0 → ∀ x ∈ l, x.Rd) : PC Tryz.prog T 28 [.d (.slc 12 (l.map cmdD))] (.d (.int .i64 (ruleE l))) := by
 refine ⟨Tryz.call28, PCall.enterS Tryz.func28 rfl Tryz.ntmps28 rfl fun hb => ?_⟩
 simp only [go_sem, Tryz.results28]
 refine Zp 1 ?_
 refine Zs ?_
 refine Z1 3 (Check_c T l hll ok hl tb) ?_
 refine Zp 11 ?_
 refine Zc (fun hc0 => ?_) fun hc0 => ?_
 ·
  refine Zp 2 ?_
  refine AWp.ret ?_
  try simp only [go_sem]
  rw [ruleE, if_pos hc0]; try simp [LeA, LeD]
 have hz : chkE l = 0 := by omega
 have rd := rd hz
 refine Zk ?_
 refine Zx ?_
 try simp only [go_sem]
 (repeat (with_reducible refine And.intro ZS ?_))
 refine DW.mkMap rfl rfl fun tk ftk => ?_
 try simp only [go_sem]
 (repeat (with_reducible refine And.intro ZS ?_))
 intro b4
 first | intro fb4 | have fb4 := True.intro
 try simp only [freshL] at fb4
 try simp only [go_sem, fb4]
 (repeat (with_reducible refine And.intro ZS ?_))
 refine Zm 5 ?_
 refine Zs ?_
 refine AWp.block ?_
 simp only [go_sem]
 refine Zl 2 1 (fun n lc hc => ∃ (k t : Nat) (ks kz : List (List UInt8)), n = l.length - k ∧ EqS lc [(0, .d (.slc 12 ((l.drop k).map cmdD)))] ∧ EqS hc (⟨[(b4, ⟨1, 1, [[.mp t kz]]⟩)], [t]⟩) ∧ (k ≤ l.length) ∧ (Same kz ks) ∧ (reqE [] l = reqE ks (l.drop k))) ?_ ?_
 · refine ⟨_, 0, tk, [], [], rfl, ZE, ZE, ?_, ?_, ?_⟩
   all_goals (first | omega | rfl | exact Same.nil)
 rintro _ _ _ ⟨k, t, ks, kz, rfl, ⟨rfl⟩, ⟨rfl⟩, m1, m2, m3⟩
 simp only [go_sem]
 refine Zs ?_
 rcases Nat.lt_or_ge k l.length with hkl | hkl
 ·
  have hkL : (0 < l.length - k) = True := by simp; omega
  have hdg := fun d => drop_get0 cmdD l k d hkl
  have htk : List.take (l.length - k) (List.drop k (List.map cmdD l)) = List.drop k (List.map cmdD l) := List.take_of_length_le (by simp)
  have hr2 := (rd _ (List.getElem_mem hkl)).inv.2.1
  refine Zp 2051 ?_
  refine Zc (fun hc1 => ?_) fun hc1 => ?_
  ·
   have hk1 : (l[k]).kind = 1 := by omega
   refine Zk ?_
   refine AWp.block ?_
   refine Zs ?_
   refine Zp 451 ?_
   refine AWp.block ?_
   simp only [go_sem]
   refine Zl 15 16 (fun n lc hc => ∃ (q u : Nat) (kz2 : List (List UInt8)), n = (l[k]).texts.length - q ∧ EqS lc [(30, .d (.int .i64 (q : Nat)))] ∧ EqS hc (⟨[(b4, ⟨1, 1, [[.mp u kz2]]⟩)], [u]⟩) ∧ (q ≤ (l[k]).texts.length) ∧ (Same kz2 (ks ++ (l[k]).texts.take q)) ∧ (AllX ((l[k]).texts.take q))) ?_ ?_
   · refine ⟨_, 0, t, kz, rfl, ZE, ZE, ?_, ?_, ?_⟩
     all_goals (first | omega | (simpa using m2) | exact fun s h9 => by simp at h9)
   rintro _ _ _ ⟨q, u, kz2, rfl, ⟨rfl⟩, ⟨rfl⟩, q1, q2, q3⟩
   simp only [go_sem]
   refine Zp 63 ?_
   refine Zs ?_
   refine Zc (fun hc2 => ?_) fun hc2 => ?_
   ·
    have hqt : q < (l[k]).texts.length := by omega
    have hqi : (q : Int) < ((l[k]).texts.length : Int) := by omega
    have zf1 := fun d0_ => map_getD strD (l[k]).texts q d0_ hqt
    refine Zk ?_
    refine Zs ?_
    refine AWp.block ?_
    refine Zp 63 ?_
    refine Zs ?_
    refine AWp.rsG 0 fun K_ hK_ => ?_
    simp only [List.take_succ_cons, List.take_zero, List.drop_succ_cons, List.drop_zero]
    try simp only [go_sem, fb4, hkL, hdg, zf1, hqi]
    (repeat (with_reducible refine And.intro ZS ?_))
    refine LV.dw1 ?_
    refine DW.sliceG (n := 4) (e := 9) rfl rfl rfl (by first | rfl | kernel_rfl) (by first | rfl | kernel_rfl) (by rw [hE]; rfl) (by decide) (by decide) ?_
    refine DW.nil ?_
    rw [hE, mapS1]
    refine LV.lvc ?_
    try simp only [go_sem, fb4, hkL, hdg, zf1, hqi]
    (repeat (with_reducible refine And.intro ZS ?_))
    refine DW.pcr rfl rfl rfl rfl (ContT_c T extT _ (by decide)) rfl rfl ?_
    try simp only [go_sem, fb4, hkL, hdg, zf1, hqi]
    (repeat (with_reducible refine And.intro ZS ?_))
    refine hK_ _ _ ?_
    refine Zc (fun hc3 => ?_) fun hc3 => ?_
    ·
     have hx : ¬ (l[k]).texts[q] ∈ extT := by simpa using hc3
     refine Zp 2 ?_
     refine AWp.ret ?_
     try simp only [go_sem, fb4, hkL, hdg, zf1, hqi]
     rw [ruleE, if_neg (fun h9 => h9 hz), m3, reqE_n hkl hk1 hqt hx]; try simp [LeA, LeD]
    have hx : (l[k]).texts[q] ∈ extT := by simpa using hc3
    refine Zk ?_
    refine Zm 63 ?_
    refine Zq fun K_ k_ => ?_
    try simp only [go_sem, fb4, hkL, hdg, zf1, hqi]
    (repeat (with_reducible refine And.intro ZS ?_))
    refine DW.mapUpd (b := b4) (i := 0) (j := 0) (t := u) (ks := kz2) (s := (l[k]).texts[q]) (ob := ⟨1, 1, [[.mp u kz2]]⟩) (r := [.mp u kz2]) rfl rfl Tryz.underlying119 Tryz.underlying9 rfl rfl rfl (by simp) (by simp [getO]) rfl rfl fun t2 ft2 => ?_
    try simp only [go_sem, fb4, hkL, hdg, zf1, hqi]
    (repeat (with_reducible refine And.intro ZS ?_))
    refine k_ _ _ (blkQ_n (thenQ_n ?_))
    refine Zm 59 ?_
    refine Zr (thenQ_n ?_)
    refine Ze 15 16 [] [] [b4] [t2] (.e ⟨_, ZM, q + 1, t2, (addK (l[k]).texts[q] kz2), rfl, ZE, ZE, ?_, ?_, ?_⟩)
    · omega
    · exact q2.st hqt
    · exact q3.s hqt hx
   have ha := q3.e (by omega)
   refine AWp.exit (thenQ_e (thenQ_e (blkQ_e (thenQ_n ?_))))
   refine Zm 3 ?_
   refine Zr (blkQ_n (thenQ_n ?_))
   refine Ze 2 1 [] [] [b4] [u] (.e ⟨_, ZM, k + 1, u, (ks ++ (l[k]).texts), kz2, rfl, ?_, ZE, ?_, ?_, ?_⟩)
   · (try simp only [go_sem, fb4, hkL, hdg]) <;> first | exact ⟨rfl⟩ | (constructor; first | (simp; done) | (simp [htk]; done))
   · omega
   · exact q2.en (by omega)
   · rw [m3, reqE_s hkl hk1 ha]
  refine AWp.exit (thenQ_e (thenQ_e (blkQ_e (thenQ_n ?_))))
  refine Zx ?_
  try simp only [go_sem, fb4, hkL, hdg]
  (repeat (with_reducible refine And.intro ZS ?_))
  refine DW.acp [b4] [t] rfl rfl rfl rfl (by (try simp only [go_sem, fb4, hkL, hdg]); rfl) rfl (jall_c T hL hF b4 t kz (l.drop k) (by simp only [List.length_drop]; omega) (fun x hx => ok x (List.mem_of_mem_drop hx)) (fun x hx => rd x (List.mem_of_mem_drop hx)) _ _) ?_
  rintro _ _ ⟨rfl, rfl⟩
  try simp only [go_sem, fb4, hkL, hdg]
  (repeat (with_reducible refine And.intro ZS ?_))
  refine Zm 2 ?_
  refine AWp.ret ?_
  try simp only [go_sem, fb4, hkL, hdg]
  rw [ruleE, if_neg (fun h9 => h9 hz), m3, reqE_o hkl (by simp at hc1; omega), m2.cmdL]; try simp [LeA, LeD]
 have hkL : (0 < l.length - k) = False := by simp; omega
 refine Zp 2051 ?_
 refine Zc (fun hc1 => ?_) fun hc1 => ?_
 ·
  exact absurd hc1 (by first | (simp; done) | omega | (simp [*]; done))
 refine AWp.exit (thenQ_e (thenQ_e (blkQ_e (thenQ_n ?_))))
 refine Zx ?_
 try simp only [go_sem, fb4, hkL]
 (repeat (with_reducible refine And.intro ZS ?_))
 refine DW.acp [b4] [t] rfl rfl rfl rfl (by (try simp only [go_sem, fb4, hkL]); rfl) rfl (jall_c T hL hF b4 t kz (l.drop k) (by simp only [List.length_drop]; omega) (fun x hx => ok x (List.mem_of_mem_drop hx)) (fun x hx => rd x (List.mem_of_mem_drop hx)) _ _) ?_
 rintro _ _ ⟨rfl, rfl⟩
 try simp only [go_sem, fb4, hkL]
 (repeat (with_reducible refine And.intro ZS ?_))
 refine Zm 2 ?_
 refine AWp.ret ?_
 try simp only [go_sem, fb4, hkL]
 rw [ruleE, if_neg (fun h9 => h9 hz), m3, reqE_e hkl, m2.cmdL]; try simp [LeA, LeD]
end Go.Proofs.YtidldcfpmehpiaaGreatDoor

namespace Go.Proofs.YtidldcfpmehpiaaGreatDoor
set_option linter.unusedSimpArgs false
set_option linter.unusedVariables false
mutual
def tO : Tst → List OpS
  | .mk k m p n ks o lim kids => if k = 3 then tO1 kids ++ [⟨2, 0, zeT, zeC⟩] else if k = 4 ∨ k = 5 then tOL kids (if k = 5 then 3 else 4) ((kids.length : Int) - 1 + (tON kids : Nat)) true [] else [⟨1, 0, .mk k m p n ks o lim kids, zeC⟩]
def tO1 : List Tst → List OpS
  | [] => []
  | t :: _ => tO t
def tON : List Tst → Nat
  | [] => 0
  | t :: l => (tO t).length + tON l
def tOL : List Tst → Int → Int → Bool → List OpS → List OpS
  | [], _, _, _, Y => Y
  | t :: l, kd, n, f, Y => tOL l kd n false ((if f = true then Y else Y ++ [⟨kd, n, zeT, zeC⟩]) ++ opsMv (if f = true then Y else Y ++ [⟨kd, n, zeT, zeC⟩]).length (tO t))
end
theorem tO_eq (t : Tst) : tO t = if t.kind = 3 then tO1 t.kids ++ [⟨2, 0, zeT, zeC⟩] else if t.kind = 4 ∨ t.kind = 5 then tOL t.kids (if t.kind = 5 then 3 else 4) ((t.kids.length : Int) - 1 + (tON t.kids : Nat)) true [] else [⟨1, 0, t, zeC⟩] := by cases t; rw [tO]; rfl
theorem tOL_len : ∀ (l : List Tst) (kd n : Int) (Y : List OpS), (tOL l kd n false Y).length = Y.length + tON l + l.length
  | [], kd, n, Y => by rw [tOL, tON]; rfl
  | t :: l, kd, n, Y => by
    rw [tOL, if_neg (by decide), tOL_len l, tON]
    simp only [List.length_append, List.length_cons, List.length_nil, opsMv_len]
    omega
theorem tOL_len1 (t : Tst) (l : List Tst) (kd n : Int) : (tOL (t :: l) kd n true []).length = tON (t :: l) + l.length := by
  rw [tOL, if_pos rfl, tOL_len, tON]
  simp only [List.length_append, List.length_nil, opsMv_len]
  omega
theorem tO1_0 {l : List Tst} (h : 0 < l.length) : tO1 l = tO (l[0]) := by
  cases l with
  | nil => simp at h
  | cons x l => rw [tO1]; rfl
theorem setTo_app {X Z : List OpS} {p : Nat} {v : Int} (h : p < X.length) : setTo (X ++ Z) p v = setTo X p v ++ Z := by
  unfold setTo
  rw [List.getElem?_append_left h, List.getElem?_eq_getElem h]
  exact List.set_append_left _ _ h
theorem setTo_at (X : List OpS) (o : OpS) (Z : List OpS) (v : Int) : setTo (X ++ o :: Z) X.length v = X ++ ⟨o.kind, v, o.test, o.what⟩ :: Z := by
  unfold setTo
  simp
theorem patchL_app : ∀ (ps : List Nat) (X Z : List OpS) (v : Int), (∀ p ∈ ps, p < X.length) → patchL (X ++ Z) ps v = patchL X ps v ++ Z
  | [], X, Z, v, h => rfl
  | p :: ps, X, Z, v, h => by
    show patchL (setTo (X ++ Z) p v) ps v = patchL (setTo X p v) ps v ++ Z
    rw [setTo_app (h p (List.mem_cons_self ..)), patchL_app ps (setTo X p v) Z v fun q hq => by rw [setTo_len]; exact h q (List.mem_cons_of_mem _ hq)]
theorem opsMv_app2 (B : Nat) (Y Z : List OpS) : opsMv B (Y ++ opsMv Y.length Z) = opsMv B Y ++ opsMv (B + Y.length) Z := by rw [opsMv_app, opsMv_add]
theorem opsMv_j {kd : Int} (hk : 3 ≤ kd ∧ kd ≤ 5) (B : Nat) (n : Int) : opsMv B [⟨kd, n, zeT, zeC⟩] = [⟨kd, n + B, zeT, zeC⟩] := by simp [opsMv, opMv, hk.1, hk.2]
theorem opsMv_c {kd : Int} (hk : 3 ≤ kd ∧ kd ≤ 5) (B : Nat) (n : Int) (l : List OpS) : opsMv B (⟨kd, n, zeT, zeC⟩ :: l) = ⟨kd, n + B, zeT, zeC⟩ :: opsMv B l := by simp [opsMv, opMv, hk.1, hk.2]
theorem lawI {X T A : List OpS} {v1 v2 : Int} {n1 n2 : Nat} (hv : v1 = v2) (hn : n1 = n2) : X ++ (T ++ (⟨4, v1, zeT, zeC⟩ : OpS) :: opsMv n1 A) = X ++ (T ++ (⟨4, v2, zeT, zeC⟩ : OpS) :: opsMv n2 A) := by rw [hv, hn]
theorem lawJ {X T A B : List OpS} {v1 v2 u1 u2 : Int} {n1 n2 m1 m2 : Nat} (hv : v1 = v2) (hn : n1 = n2) (hu : u1 = u2) (hm : m1 = m2) : X ++ (T ++ (⟨4, v1, zeT, zeC⟩ : OpS) :: (opsMv n1 A ++ (⟨5, u1, zeT, zeC⟩ : OpS) :: opsMv m1 B)) = X ++ (T ++ (⟨4, v2, zeT, zeC⟩ : OpS) :: (opsMv n2 A ++ (⟨5, u2, zeT, zeC⟩ : OpS) :: opsMv m2 B)) := by rw [hv, hn, hu, hm]
theorem tCL_law (kd : Int) (hk : 3 ≤ kd ∧ kd ≤ 5) (n : Int) (X0 : List OpS) : ∀ (l : List Tst), (∀ t ∈ l, ∀ X, tC t X = X ++ opsMv X.length (tO t)) → ∀ (X : List OpS) (ps : List Nat) (Y : List OpS), (∀ p ∈ ps, p < X.length) → patchL X ps (n + X0.length) = X0 ++ opsMv X0.length Y → X.length = X0.length + Y.length →
    patchL (tCL l kd false X ps).1 (tCL l kd false X ps).2 (n + X0.length) = X0 ++ opsMv X0.length (tOL l kd n false Y) ∧ (tCL l kd false X ps).1.length = X0.length + (tOL l kd n false Y).length
  | [], _, X, ps, Y, hp, he, hl => by
    rw [tCL, tOL]
    exact ⟨he, hl⟩
  | t :: l, ih, X, ps, Y, hp, he, hl => by
    rw [tCL, tOL, if_neg (by decide), if_neg (by decide), ih t (List.mem_cons_self ..)]
    have h1 : patchL (X ++ [⟨kd, 0, zeT, zeC⟩]) (ps ++ [X.length]) (n + X0.length) = X0 ++ opsMv X0.length (Y ++ [⟨kd, n, zeT, zeC⟩]) := by
      rw [patchL_snoc, patchL_app _ _ _ _ hp, ← patchL_len ps X (n + X0.length), setTo_at, he, opsMv_app, opsMv_j hk, List.append_assoc]
    have hp1 : ∀ p ∈ ps ++ [X.length], p < (X ++ [(⟨kd, 0, zeT, zeC⟩ : OpS)]).length := by
      intro p hp2
      simp only [List.mem_append, List.mem_singleton] at hp2
      simp only [List.length_append, List.length_cons, List.length_nil]
      rcases hp2 with h | h
      · have := hp p h; omega
      · omega
    have hl1 : (X ++ [(⟨kd, 0, zeT, zeC⟩ : OpS)]).length = X0.length + (Y ++ [(⟨kd, n, zeT, zeC⟩ : OpS)]).length := by
      simp only [List.length_append, List.length_cons, List.length_nil]; omega
    refine tCL_law kd hk n X0 l (fun x hx => ih x (List.mem_cons_of_mem _ hx)) _ _ _ ?_ ?_ ?_
    · intro p hp2
      rw [List.length_append]
      exact Nat.lt_of_lt_of_le (hp1 p hp2) (Nat.le_add_right ..)
    · rw [patchL_app _ _ _ _ hp1, h1, opsMv_app2, hl1, List.append_assoc]
    · simp only [List.length_append, opsMv_len, List.length_cons, List.length_nil] at hl1 ⊢
      omega
theorem tC_law (t : Tst) : ∀ X, tC t X = X ++ opsMv X.length (tO t) := by
  induction t using Tst.ind with
  | h t ih =>
    intro X
    rw [tC_eq, tO_eq]
    by_cases h3 : t.kind = 3
    · rw [if_pos h3, if_pos h3]
      cases hk : t.kids with
      | nil => rw [tC1, tO1]; simp [opsMv, opMv]
      | cons x l =>
        rw [tC1, tO1, ih x (by rw [hk]; simp), opsMv_app, List.append_assoc]
        simp [opsMv, opMv]
    rw [if_neg h3, if_neg h3]
    by_cases h4 : t.kind = 4 ∨ t.kind = 5
    · rw [if_pos h4, if_pos h4]
      have hkd : ∀ kd : Int, 3 ≤ kd ∧ kd ≤ 5 → tCE (tCL t.kids kd true X []) = X ++ opsMv X.length (tOL t.kids kd ((t.kids.length : Int) - 1 + (tON t.kids : Nat)) true []) := by
        intro kd hk
        cases hq : t.kids with
        | nil => rw [tCL, tOL, tCE]; simp [patchL, opsMv]
        | cons x l =>
          have e1 := ih x (by rw [hq]; simp) X
          have hT : (tOL (x :: l) kd (((x :: l).length : Int) - 1 + (tON (x :: l) : Nat)) true []) = tOL l kd (((x :: l).length : Int) - 1 + (tON (x :: l) : Nat)) false (opsMv 0 (tO x)) := by rw [tOL]; rfl
          have hz : opsMv 0 (tO x) = tO x := by
            have : ∀ o : OpS, opMv 0 o = o := fun o => by unfold opMv; split <;> simp
            simp [opsMv, funext this]
          have hL := tOL_len1 x l kd (((x :: l).length : Int) - 1 + (tON (x :: l) : Nat))
          have := tCL_law kd hk (((x :: l).length : Int) - 1 + (tON (x :: l) : Nat)) X l (fun y hy => ih y (by rw [hq]; exact List.mem_cons_of_mem _ hy)) (X ++ opsMv X.length (tO x)) [] (tO x) (fun p hp => by simp at hp) rfl (by rw [List.length_append, opsMv_len])
          rw [tCL, if_pos rfl, e1, tCE]
          rw [hT, hz] at hL ⊢
          rw [← this.1, this.2, hL]
          congr 1
          simp only [List.length_cons]
          omega
      by_cases h5 : t.kind = 5
      · rw [if_pos h5]; exact hkd 3 (by decide)
      · rw [if_neg h5]; exact hkd 4 (by decide)
    · rw [if_neg h4, if_neg h4]
      simp [opsMv, opMv]
/-- a condition's ops: of its test, of what it has, of what else it has -/
def cOJ (t a b : List OpS) : List OpS := t ++ [⟨4, (t.length + 1 + a.length + 1 : Nat), zeT, zeC⟩] ++ opsMv (t.length + 1) a ++ [⟨5, (t.length + 1 + a.length + 1 + b.length : Nat), zeT, zeC⟩] ++ opsMv (t.length + 1 + a.length + 1) b
def cOI (t a : List OpS) : List OpS := t ++ [⟨4, (t.length + 1 + a.length : Nat), zeT, zeC⟩] ++ opsMv (t.length + 1) a
mutual
def cO : Cmd → List OpS
  | .mk k ts t a b => if k = 2 then cOE b (tO t) (cOL a []) else [⟨6, 0, zeT, .mk k ts zeT [] []⟩]
def cOE : List Cmd → List OpS → List OpS → List OpS
  | [], t, a => cOI t a
  | c :: l, t, a => cOJ t a (cOL l ([] ++ opsMv ([] : List OpS).length (cO c)))
def cOL : List Cmd → List OpS → List OpS
  | [], Y => Y
  | c :: l, Y => cOL l (Y ++ opsMv Y.length (cO c))
end
theorem cO_eq (c : Cmd) : cO c = if c.kind = 2 then cOE c.els (tO c.test) (cOL c.thn []) else [⟨6, 0, zeT, .mk c.kind c.texts zeT [] []⟩] := by cases c; rw [cO]; rfl
theorem cOE_p {l : List Cmd} {t a : List OpS} (h : 0 < l.length) : cOE l t a = cOJ t a (cOL l []) := by
  cases l with
  | nil => simp at h
  | cons c l => rw [cOE, cOL]
theorem cOE_0 {l : List Cmd} {t a : List OpS} (h : l.length = 0) : cOE l t a = cOI t a := by
  rw [List.eq_nil_of_length_eq_zero h, cOE]
theorem cOL_s {l : List Cmd} {k : Nat} {Y : List OpS} (h : k < l.length) : cOL (l.drop k) Y = cOL (l.drop (k + 1)) (Y ++ opsMv Y.length (cO (l[k]))) := by
  rw [List.drop_eq_getElem_cons h, cOL]
theorem cCL_law : ∀ (l : List Cmd), (∀ c ∈ l, ∀ X, cC c X = X ++ opsMv X.length (cO c)) → ∀ X0 Y, cCL l (X0 ++ opsMv X0.length Y) = X0 ++ opsMv X0.length (cOL l Y)
  | [], _, X0, Y => by rw [cCL, cOL]
  | c :: l, ih, X0, Y => by
    rw [cCL, cOL, ih c (List.mem_cons_self ..), List.append_assoc, List.length_append, opsMv_len, ← opsMv_app2]
    exact cCL_law l (fun x hx => ih x (List.mem_cons_of_mem _ hx)) _ _
theorem cCL_law0 (l : List Cmd) (ih : ∀ c ∈ l, ∀ X, cC c X = X ++ opsMv X.length (cO c)) (X : List OpS) : cCL l X = X ++ opsMv X.length (cOL l []) := by
  have := cCL_law l ih X []
  rwa [show opsMv X.length [] = [] from rfl, List.append_nil] at this
theorem cC_law (c : Cmd) : ∀ X, cC c X = X ++ opsMv X.length (cO c) := by
  induction c using Cmd.ind with
  | h c ih ih2 =>
    intro X
    rw [cC_eq, cO_eq]
    by_cases h2 : c.kind = 2
    · rw [if_pos h2, if_pos h2, cCL_law0 _ ih, tC_law]
      rcases Nat.eq_zero_or_pos c.els.length with e | e
      · obtain e0 := List.eq_nil_of_length_eq_zero e
        rw [e0, cCE, cOE]
        show setTo _ _ _ = _
        rw [show (X ++ opsMv X.length (tO c.test) ++ [(⟨4, 0, zeT, zeC⟩ : OpS)] ++ opsMv (X ++ opsMv X.length (tO c.test) ++ [(⟨4, 0, zeT, zeC⟩ : OpS)]).length (cOL c.thn [])) = (X ++ opsMv X.length (tO c.test)) ++ (⟨4, 0, zeT, zeC⟩ : OpS) :: opsMv (X ++ opsMv X.length (tO c.test) ++ [(⟨4, 0, zeT, zeC⟩ : OpS)]).length (cOL c.thn []) by simp, setTo_at, cOI]
        simp only [List.append_assoc, List.cons_append, List.nil_append, opsMv_app, opsMv_c (kd := 4) (by decide), opsMv_add, List.length_append, opsMv_len, List.length_cons, List.length_nil]
        exact lawI (by omega) (by omega)
      · rw [cCE_p e, cOE_p e]
        show setTo (cCL c.els (setTo _ _ _)) _ _ = _
        rw [show (X ++ opsMv X.length (tO c.test) ++ [(⟨4, 0, zeT, zeC⟩ : OpS)] ++ opsMv (X ++ opsMv X.length (tO c.test) ++ [(⟨4, 0, zeT, zeC⟩ : OpS)]).length (cOL c.thn []) ++ [(⟨5, 0, zeT, zeC⟩ : OpS)]) = (X ++ opsMv X.length (tO c.test)) ++ (⟨4, 0, zeT, zeC⟩ : OpS) :: (opsMv (X ++ opsMv X.length (tO c.test) ++ [(⟨4, 0, zeT, zeC⟩ : OpS)]).length (cOL c.thn []) ++ [(⟨5, 0, zeT, zeC⟩ : OpS)]) by simp, setTo_at]
        generalize hv : (((X ++ opsMv X.length (tO c.test) ++ [(⟨4, 0, zeT, zeC⟩ : OpS)] ++ opsMv (X ++ opsMv X.length (tO c.test) ++ [(⟨4, 0, zeT, zeC⟩ : OpS)]).length (cOL c.thn [])).length + 1 : Nat) : Int) = v
        rw [cCL_law0 _ ih2]
        generalize hW : X ++ opsMv X.length (tO c.test) ++ (⟨4, v, zeT, zeC⟩ : OpS) :: opsMv (X ++ opsMv X.length (tO c.test) ++ [(⟨4, 0, zeT, zeC⟩ : OpS)]).length (cOL c.thn []) = W
        have hWl : (X ++ opsMv X.length (tO c.test) ++ [(⟨4, 0, zeT, zeC⟩ : OpS)] ++ opsMv (X ++ opsMv X.length (tO c.test) ++ [(⟨4, 0, zeT, zeC⟩ : OpS)]).length (cOL c.thn [])).length = W.length := by rw [← hW]; simp
        have hW2 : X ++ opsMv X.length (tO c.test) ++ (⟨4, v, zeT, zeC⟩ : OpS) :: (opsMv (X ++ opsMv X.length (tO c.test) ++ [(⟨4, 0, zeT, zeC⟩ : OpS)]).length (cOL c.thn []) ++ [(⟨5, 0, zeT, zeC⟩ : OpS)]) = W ++ [⟨5, 0, zeT, zeC⟩] := by rw [← hW]; simp
        rw [hW2, hWl]
        rw [show W ++ [(⟨5, 0, zeT, zeC⟩ : OpS)] ++ opsMv (W ++ [(⟨5, 0, zeT, zeC⟩ : OpS)]).length (cOL c.els []) = W ++ (⟨5, 0, zeT, zeC⟩ : OpS) :: opsMv (W ++ [(⟨5, 0, zeT, zeC⟩ : OpS)]).length (cOL c.els []) by simp, setTo_at, ← hW, ← hv, cOJ]
        have hlen : ∀ Z, (cCL c.els Z).length = Z.length + (cOL c.els []).length := fun Z => by rw [cCL_law0 _ ih2, List.length_append, opsMv_len]
        simp only [hlen, patchL_len, List.append_assoc, List.cons_append, List.nil_append, opsMv_app, opsMv_c (kd := 4) (by decide), opsMv_c (kd := 5) (by decide), opsMv_add, List.length_append, opsMv_len, List.length_cons, List.length_nil]
        exact lawJ (by omega) (by omega) (by omega) (by omega)
    · rw [if_neg h2, if_neg h2]
      simp [opsMv, opMv]
theorem cCL_0 (l : List Cmd) : cCL l [] = cOL l [] := by
  rw [cCL_law0 l fun c _ => cC_law c]
  have : ∀ o : OpS, opMv 0 o = o := fun o => by unfold opMv; split <;> simp
  simp [opsMv, funext this]
end Go.Proofs.YtidldcfpmehpiaaGreatDoor

namespace Go.Proofs.YtidldcfpmehpiaaGreatDoor
set_option linter.unusedSimpArgs false
set_option linter.unusedVariables false
theorem tTL_len : ∀ (l : List Tst) (f : Bool), (∀ x ∈ l, (tO x).length ≤ (tT x).length) → tON l + l.length ≤ (tTL l f).length
  | [], f, _ => by rw [tON]; simp
  | t :: l, f, h => by
    have h1 := h t (List.mem_cons_self ..)
    have h2 := tTL_len l false fun x hx => h x (List.mem_cons_of_mem _ hx)
    rw [tON, tTL]
    simp only [List.length_cons, List.length_append]
    omega
theorem tO_tT (t : Tst) : (tO t).length ≤ (tT t).length := by
  induction t using Tst.ind with
  | h t ih =>
    rw [tO_eq, tT_eq]
    by_cases h3 : t.kind = 3
    · rw [if_pos h3, if_pos h3]
      cases hk : t.kids with
      | nil => simp [tO1]
      | cons x l => have := ih x (by rw [hk]; simp); rw [tO1, tK]; simp; omega
    rw [if_neg h3, if_neg h3]
    by_cases h4 : t.kind = 4 ∨ t.kind = 5
    · have e45 : inB t.kind 4 5 = true := by simp [inB]; omega
      rw [if_pos h4, if_pos e45]
      have := tTL_len t.kids true ih
      cases hk : t.kids with
      | nil => rw [tOL]; simp
      | cons x l =>
        rw [tOL_len1, ← hk]
        rw [hk] at this
        simp only [List.length_cons, List.length_append, hk] at *
        omega
    · rw [if_neg h4]; simp
theorem cO_lsT : ∀ (l : List Cmd), (∀ c ∈ l, (cO c).length ≤ (cmT c).length + 1) → ∀ Y, (cOL l Y).length ≤ Y.length + (lsT l).length
  | [], _, Y => by rw [cOL]; simp
  | c :: l, h, Y => by
    have h1 := h c (List.mem_cons_self ..)
    have h2 := cO_lsT l (fun x hx => h x (List.mem_cons_of_mem _ hx)) (Y ++ opsMv Y.length (cO c))
    rw [cOL, lsT]
    simp only [List.length_append, opsMv_len, List.length_cons] at *
    omega
theorem elT_len (l : List Cmd) : (lsT l).length ≤ (elT l).length := by
  match l with
  | [] => simp [lsT]
  | [x] => rw [elT]; split <;> simp [lsT]
  | x :: y :: l => rw [elT, lsT]; simp; omega
theorem cO_cmT (c : Cmd) : (cO c).length ≤ (cmT c).length + 1 := by
  induction c using Cmd.ind with
  | h c ih ih2 =>
    rw [cO_eq, cmT_eq]
    by_cases h2 : c.kind = 2
    · rw [if_pos h2, if_pos h2]
      have h3 := tO_tT c.test
      have h4 := cO_lsT c.thn ih []
      have h5 := cO_lsT c.els ih2 []
      have h6 := elT_len c.els
      rcases Nat.eq_zero_or_pos c.els.length with e | e
      · rw [cOE_0 e, cOI]
        simp only [List.length_append, opsMv_len, List.length_cons, List.length_nil] at *
        omega
      · rw [cOE_p e, cOJ]
        simp only [List.length_append, opsMv_len, List.length_cons, List.length_nil] at *
        omega
    · rw [if_neg h2]; simp
theorem cOL_chk {l : List Cmd} (h : ruleE l = 0) : (cOL l []).length ≤ 400 := by
  have h1 := cO_lsT l (fun c _ => cO_cmT c) []
  have h2 : chkE l = 0 := by
    rw [ruleE] at h
    split at h
    · omega
    · omega
  rw [chkE] at h2
  split at h2
  · split at h2
    · omega
    · simp only [List.length_nil] at h1; omega
  · contradiction
theorem cFL_ok {l : List Cmd} (h : ruleE l = 0) : cFL l 0 = 0 := by
  have h2 : chkE l = 0 := by
    rw [ruleE] at h
    split at h
    · omega
    · omega
  rw [chkE] at h2
  split at h2
  · assumption
  · contradiction
theorem K3.of (t : Tst) : ∀ d, tF t d = 0 → K3 t := by
  induction t using Tst.ind with
  | h t ih =>
    intro d h
    obtain ⟨h1, h2, h3⟩ := tF_ok h
    exact ⟨fun h4 => by rw [(okS_inv t h2).1 h4]; decide, fun x hx => ih x hx _ (h3 x hx)⟩
theorem C3.of (c : Cmd) : ∀ d, cF c d = 0 → C3 c := by
  induction c using Cmd.ind with
  | h c ih ih2 =>
    intro d h
    obtain ⟨h1, h2, h3⟩ := cF_ok h
    by_cases hk : c.kind = 2
    · obtain ⟨q1, q2, q3, q4⟩ := h2 hk
      refine ⟨fun _ => K3.of _ _ q1, fun x hx => ih x hx _ (q2 x hx), fun x hx => ?_⟩
      cases he : elsifC c with
      | true => exact ih2 x hx _ (q3 he x hx)
      | false => exact ih2 x hx _ (q4 he x hx)
    · have h9 := h3 hk
      rw [okC_eq] at h9
      simp only [Bool.and_eq_true, decide_eq_true_eq] at h9
      have h10 : c.thn.length = 0 ∧ c.els.length = 0 := by grind
      refine ⟨fun h => absurd h hk, fun x hx => ?_, fun x hx => ?_⟩
      · rw [List.eq_nil_of_length_eq_zero h10.1] at hx; cases hx
      · rw [List.eq_nil_of_length_eq_zero h10.2] at hx; cases hx
def DstLe (N : Nat) (X : List OpS) : Prop := ∀ o ∈ X, 0 ≤ o.dst ∧ o.dst ≤ N
theorem DstLe.mono {N M : Nat} {X : List OpS} (h : DstLe N X) (hm : N ≤ M) : DstLe M X := fun o ho => by have := h o ho; omega
theorem DstLe.app {N : Nat} {X Y : List OpS} (h : DstLe N X) (k : DstLe N Y) : DstLe N (X ++ Y) := fun o ho => by
  rcases List.mem_append.1 ho with h1 | h1
  · exact h o h1
  · exact k o h1
theorem DstLe.mv {N n : Nat} {X : List OpS} (h : DstLe N X) : DstLe (N + n) (opsMv n X) := fun o ho => by
  obtain ⟨q, hq, rfl⟩ := List.mem_map.1 ho
  have := h q hq
  unfold opMv
  split
  · dsimp only; omega
  · omega
theorem DstLe.one {N : Nat} {k n : Int} {t : Tst} {c : Cmd} (h : 0 ≤ n ∧ n ≤ N) : DstLe N [⟨k, n, t, c⟩] := fun o ho => by
  rw [List.mem_singleton] at ho
  subst ho
  exact h
theorem tOL_dst {kd n : Int} {N : Nat} (hn : 0 ≤ n ∧ n ≤ N) : ∀ (l : List Tst), (∀ t ∈ l, DstLe (tO t).length (tO t)) → ∀ Y, DstLe N Y → (tOL l kd n false Y).length ≤ N → DstLe N (tOL l kd n false Y)
  | [], _, Y, hY, _ => by rw [tOL]; exact hY
  | t :: l, ih, Y, hY, hl => by
    rw [tOL, if_neg (by decide)] at hl ⊢
    have h1 := tOL_len l kd n (Y ++ [⟨kd, n, zeT, zeC⟩] ++ opsMv (Y ++ [(⟨kd, n, zeT, zeC⟩ : OpS)]).length (tO t))
    simp only [List.length_append, opsMv_len] at h1
    refine tOL_dst hn l (fun x hx => ih x (List.mem_cons_of_mem _ hx)) _ ((hY.app (.one hn)).app ((ih t (List.mem_cons_self ..)).mv.mono ?_)) hl
    simp only [List.length_append, opsMv_len] at hl ⊢
    omega
theorem tO_dst (t : Tst) : DstLe (tO t).length (tO t) := by
  induction t using Tst.ind with
  | h t ih =>
    rw [tO_eq]
    by_cases h3 : t.kind = 3
    · rw [if_pos h3]
      cases hk : t.kids with
      | nil => rw [tO1]; exact .one ⟨by decide, by decide⟩
      | cons x l =>
        rw [tO1]
        exact ((ih x (by rw [hk]; simp)).mono (by simp)).app (.one ⟨by decide, by simp; omega⟩)
    rw [if_neg h3]
    by_cases h4 : t.kind = 4 ∨ t.kind = 5
    · rw [if_pos h4]
      generalize (if t.kind = 5 then (3 : Int) else 4) = kd
      cases hk : t.kids with
      | nil => rw [tOL]; intro o ho; cases ho
      | cons x l =>
        have hl := tOL_len1 x l kd (((x :: l).length : Int) - 1 + (tON (x :: l) : Nat))
        have hx := ih x (by rw [hk]; simp)
        generalize hN : (tOL (x :: l) kd (((x :: l).length : Int) - 1 + (tON (x :: l) : Nat)) true []).length = N at hl ⊢
        have hn : (0 : Int) ≤ ((x :: l).length : Int) - 1 + (tON (x :: l) : Nat) ∧ ((x :: l).length : Int) - 1 + (tON (x :: l) : Nat) ≤ N := by
          simp only [List.length_cons] at *; omega
        generalize ((x :: l).length : Int) - 1 + (tON (x :: l) : Nat) = n at hn hN ⊢
        rw [tOL, if_pos rfl] at hN ⊢
        refine tOL_dst hn l (fun y hy => ih y (by rw [hk]; exact List.mem_cons_of_mem _ hy)) _ ?_ (by omega)
        intro o ho
        have h9 : o ∈ opsMv 0 (tO x) := by simpa using ho
        have := hx.mv (n := 0) o h9
        rw [tON] at hl
        omega
    · rw [if_neg h4]; exact .one ⟨by decide, by simp⟩
theorem cOL_dst : ∀ (l : List Cmd), (∀ c ∈ l, DstLe (cO c).length (cO c)) → ∀ Y, DstLe Y.length Y → DstLe (cOL l Y).length (cOL l Y)
  | [], _, Y, hY => by rw [cOL]; exact hY
  | c :: l, ih, Y, hY => by
    rw [cOL]
    refine cOL_dst l (fun x hx => ih x (List.mem_cons_of_mem _ hx)) _ ((hY.mono (by simp)).app ((ih c (List.mem_cons_self ..)).mv.mono ?_))
    simp only [List.length_append, opsMv_len]
    omega
theorem cO_dst (c : Cmd) : DstLe (cO c).length (cO c) := by
  induction c using Cmd.ind with
  | h c ih ih2 =>
    rw [cO_eq]
    by_cases h2 : c.kind = 2
    · rw [if_pos h2]
      have h3 := tO_dst c.test
      have h4 := cOL_dst c.thn ih [] (fun o ho => by cases ho)
      have h5 := cOL_dst c.els ih2 [] (fun o ho => by cases ho)
      rcases Nat.eq_zero_or_pos c.els.length with e | e
      · rw [cOE_0 e, cOI]
        refine ((h3.mono ?_).app (.one ⟨by omega, ?_⟩)).app (h4.mv.mono ?_) <;> simp only [List.length_append, opsMv_len, List.length_cons, List.length_nil] <;> omega
      · rw [cOE_p e, cOJ]
        refine ((((h3.mono ?_).app (.one ⟨by omega, ?_⟩)).app (h4.mv.mono ?_)).app (.one ⟨by omega, ?_⟩)).app (h5.mv.mono ?_) <;> simp only [List.length_append, opsMv_len, List.length_cons, List.length_nil] <;> omega
    · rw [if_neg h2]; exact .one ⟨by decide, by simp⟩
theorem cOL_dst0 (l : List Cmd) : DstLe (cOL l []).length (cOL l []) := cOL_dst l (fun c _ => cO_dst c) [] fun o ho => by cases ho
theorem cOL_le : ∀ (l : List Cmd) (Y : List OpS), Y.length ≤ (cOL l Y).length
  | [], Y => by rw [cOL]; exact Nat.le_refl _
  | c :: l, Y => by
    rw [cOL]
    refine Nat.le_trans ?_ (cOL_le l _)
    simp
end Go.Proofs.YtidldcfpmehpiaaGreatDoor

namespace Go.Proofs.YtidldcfpmehpiaaGreatDoor
set_option linter.unusedSimpArgs false
set_option linter.unusedVariables false
theorem strs_s {l : List Tx} {k : Nat} (h : k < l.length) : (l.take (k + 1)).map strD = (l.take k).map strD ++ [strD l[k]] := by rw [List.take_succ_eq_append_getElem h, List.map_append]; rfl
theorem ops_s {X : List OpS} {n k : Nat} (h : k < X.length) : opsD (opsMv n (X.take (k + 1))) = opsD (opsMv n (X.take k)) ++ [opD (opMv n X[k])] := by rw [List.take_succ_eq_append_getElem h, opsMv_app, opsD, List.map_append]; rfl
theorem opsD_get {X : List OpS} {k : Nat} (d : List D) (h : k < X.length) : (opsD X).getD k d = opD X[k] := by simp [opsD, List.getD, h]
theorem opMv_y {n : Nat} {o : OpS} (h : 3 ≤ o.kind ∧ o.kind ≤ 5) : opMv n o = ⟨o.kind, o.dst + n, o.test, o.what⟩ := if_pos h
theorem opMv_n {n : Nat} {o : OpS} (h : ¬ (3 ≤ o.kind ∧ o.kind ≤ 5)) : opMv n o = o := if_neg h
attribute [local go_sem] icast8 List.length_map strD in
set_option maxRecDepth 4000 in
set_option maxHeartbeats 1000000 in
theorem strsCopy_c (T : Tbl) (l : List Tx) (hl : l.length * 16 ≤ 140737488355328) : PC Tryz.prog T 65 [.d (.slc 1 (l.map strD))] (.d (.slc 1 (l.map strD))) := by
 refine ⟨Tryz.call65, PCall.enterS Tryz.func65 rfl Tryz.ntmps65 rfl fun hb => ?_⟩
 simp only [go_sem, Tryz.results65]
 refine Zp 1 ?_
 refine Zp 3 ?_
 refine Zs ?_
 refine Zp 7 ?_
 refine AWp.block ?_
 simp only [go_sem]
 refine AWp.ownNilS 3 1 rfl rfl (by decide) fun u0 fu0 => ?_
 try simp only [freshT] at fu0
 simp only [go_sem]
 refine Zl 1 6 (fun n lc hc => ∃ (k u : Nat), n = l.length - k ∧ EqS lc [(3, .own u 1 ((l.take k).map strD)), (4, .d (.int .i64 (k : Nat)))] ∧ EqS hc (⟨[], [u]⟩) ∧ (k ≤ l.length)) ⟨_, 0, u0, rfl, ZE, ZE, ZI⟩ ?_
 rintro _ _ _ ⟨k, u, rfl, ⟨rfl⟩, ⟨rfl⟩, h1⟩
 simp only [go_sem]
 refine Zs ?_
 refine Zp 71 ?_
 refine Zc (fun hc0 => ?_) fun hc0 => ?_
 ·
  have hlt : k < l.length := by omega
  have hki : (k : Int) < (l.length : Int) := by omega
  have zf1 := fun d0_ => map_getD strD l k d0_ hlt
  refine Zk ?_
  refine Zs ?_
  refine AWp.block ?_
  refine Zq fun K_ k_ => ?_
  try simp only [go_sem, fu0, zf1, hki]
  (repeat (with_reducible refine And.intro ZS ?_))
  refine DW.app rfl rfl rfl rfl (show slI Tryz.prog 31 = some (9, 1, 16) by simp only [go_sem]) rfl rfl (by simp only [go_sem, fu0, zf1, hki]) (by first | exact .inl rfl | exact .inr rfl) (by (try simp only [go_sem, List.length_map, List.length_take, opsD_len, opsMv_len]); first | done | omega) (by (try simp only [go_sem, List.length_map, List.length_take, opsD_len, opsMv_len]); first | done | omega) fun t1 ft1 => ?_
  try simp only [freshT] at ft1
  try simp only [go_sem, fu0, zf1, hki, ft1]
  (repeat (with_reducible refine And.intro ZS ?_))
  refine k_ _ _ (blkQ_n (thenQ_n ?_))
  refine Zm 7 ?_
  refine Zr (thenQ_n ?_)
  refine Ze 1 6 [] [] [] [t1] (.e ⟨_, ZM, k + 1, t1, rfl, ?_, ZE, ZN⟩)
  · (try simp only [go_sem, fu0, zf1, hki, ft1]) <;> first | exact ⟨rfl⟩ | (constructor; rw [strs_s hlt]; rfl)
 have htk : l.take k = l := List.take_of_length_le (by omega)
 rw [htk]
 refine AWp.exit (thenQ_e (thenQ_e (blkQ_e (thenQ_n ?_))))
 refine Zp 2 ?_
 refine AWp.ret ?_
 try simp only [go_sem, fu0]
 try simp [LeA, LeD]
attribute [local go_sem] icast8 opsD_len opD tstD cmdD List.cons_append List.nil_append in
set_option maxRecDepth 20000 in
set_option maxHeartbeats 1000000 in
theorem moved_c (T : Tbl) (X : List OpS) (mv : Nat) (hX : X.length ≤ 1000000) (hx : ∀ o ∈ X, 0 ≤ o.dst ∧ o.dst ≤ 1000000) (hn : mv ≤ 1000000) : PC Tryz.prog T 67 [.d (.slc 22 (opsD X)), .d (.int .i64 (mv : Nat))] (.d (.slc 22 (opsD (opsMv mv X)))) := by
 refine ⟨Tryz.call67, PCall.enterS Tryz.func67 rfl Tryz.ntmps67 rfl fun hb => ?_⟩
 simp only [go_sem, Tryz.results67]
 refine Zp 3 ?_
 refine Zp 7 ?_
 refine Zs ?_
 refine Zp 15 ?_
 refine AWp.block ?_
 simp only [go_sem]
 refine AWp.ownNilS 5 22 rfl rfl (by decide) fun u0 fu0 => ?_
 try simp only [freshT] at fu0
 simp only [go_sem]
 refine Zl 3 12 (fun n lc hc => ∃ (k u : Nat), n = X.length - k ∧ EqS lc [(5, .own u 22 (opsD (opsMv mv (X.take k)))), (6, .d (.int .i64 (k : Nat)))] ∧ EqS hc (⟨[], [u]⟩) ∧ (k ≤ X.length)) ⟨_, 0, u0, rfl, ZE, ZE, ZI⟩ ?_
 rintro _ _ _ ⟨k, u, rfl, ⟨rfl⟩, ⟨rfl⟩, h1⟩
 simp only [go_sem]
 refine Zs ?_
 refine Zp 143 ?_
 refine Zc (fun hc0 => ?_) fun hc0 => ?_
 ·
  have hlt : k < X.length := by omega
  have hki : (k : Int) < (X.length : Int) := by omega
  have hdd := hx _ (List.getElem_mem hlt)
  have zf1 := fun d0_ => opsD_get d0_ hlt
  refine Zk ?_
  refine Zs ?_
  refine AWp.block ?_
  refine Zx ?_
  try simp only [go_sem, fu0, zf1, hki]
  (repeat (with_reducible refine And.intro ZS ?_))
  intro b7
  first | intro fb7 | have fb7 := True.intro
  try simp only [freshL] at fb7
  try simp only [go_sem, fu0, zf1, hki, fb7]
  (repeat (with_reducible refine And.intro ZS ?_))
  refine Zm 31 ?_
  refine Zs ?_
  refine Zx ?_
  try simp only [go_sem, fu0, zf1, hki, fb7]
  (repeat (with_reducible refine And.intro ZS ?_))
  refine DW.pcr rfl rfl rfl rfl (In_c T _ _ _) rfl rfl ?_
  try simp only [go_sem, fu0, zf1, hki, fb7]
  (repeat (with_reducible refine And.intro ZS ?_))
  refine Zc (fun hc1 => ?_) fun hc1 => ?_
  ·
   have hop : opMv mv X[k] = ⟨X[k].kind, X[k].dst + mv, X[k].test, X[k].what⟩ := opMv_y (by first | omega | (simp at hc1; omega))
   refine Zr (thenQ_n ?_)
   refine Zm 31 ?_
   refine Zq fun K_ k_ => ?_
   try simp only [go_sem, fu0, zf1, hki, fb7]
   (repeat (with_reducible refine And.intro ZS ?_))
   refine DW.app rfl rfl rfl rfl (show slI Tryz.prog 24 = some (74, 22, 320) by simp only [go_sem]) rfl rfl (by simp only [go_sem, fu0, zf1, hki, fb7]) (by first | exact .inl rfl | exact .inr rfl) (by (try simp only [go_sem, List.length_map, List.length_take, opsD_len, opsMv_len]); first | done | omega) (by (try simp only [go_sem, List.length_map, List.length_take, opsD_len, opsMv_len]); first | done | omega) fun t1 ft1 => ?_
   try simp only [freshT] at ft1
   try simp only [go_sem, fu0, zf1, hki, fb7, ft1]
   (repeat (with_reducible refine And.intro ZS ?_))
   refine k_ _ _ (blkQ_n (thenQ_n ?_))
   refine Zm 15 ?_
   refine Zr (thenQ_n ?_)
   refine Ze 3 12 [b7] [] [] [t1] (.e ⟨_, ZM, k + 1, t1, rfl, ?_, ZE, ZN⟩)
   · (try simp only [go_sem, fu0, zf1, hki, fb7, ft1]) <;> first | exact ⟨rfl⟩ | (constructor; rw [ops_s hlt, hop]; simp [opD, tstD, cmdD]; done)
  have hop : opMv mv X[k] = X[k] := opMv_n (by first | omega | (simp at hc1; omega))
  refine Zk ?_
  refine Zq fun K_ k_ => ?_
  try simp only [go_sem, fu0, zf1, hki, fb7]
  (repeat (with_reducible refine And.intro ZS ?_))
  refine DW.app rfl rfl rfl rfl (show slI Tryz.prog 24 = some (74, 22, 320) by simp only [go_sem]) rfl rfl (by simp only [go_sem, fu0, zf1, hki, fb7]) (by first | exact .inl rfl | exact .inr rfl) (by (try simp only [go_sem, List.length_map, List.length_take, opsD_len, opsMv_len]); first | done | omega) (by (try simp only [go_sem, List.length_map, List.length_take, opsD_len, opsMv_len]); first | done | omega) fun t2 ft2 => ?_
  try simp only [freshT] at ft2
  try simp only [go_sem, fu0, zf1, hki, fb7, ft2]
  (repeat (with_reducible refine And.intro ZS ?_))
  refine k_ _ _ (blkQ_n (thenQ_n ?_))
  refine Zm 15 ?_
  refine Zr (thenQ_n ?_)
  refine Ze 3 12 [b7] [] [] [t2] (.e ⟨_, ZM, k + 1, t2, rfl, ?_, ZE, ZN⟩)
  · (try simp only [go_sem, fu0, zf1, hki, fb7, ft2]) <;> first | exact ⟨rfl⟩ | (constructor; rw [ops_s hlt, hop]; simp [opD, tstD, cmdD]; done)
 have htk : X.take k = X := List.take_of_length_le (by omega)
 rw [htk]
 refine AWp.exit (thenQ_e (thenQ_e (blkQ_e (thenQ_n ?_))))
 refine Zm 4 ?_
 refine Zp 1 ?_
 refine AWp.ret ?_
 try simp only [go_sem, fu0]
 try simp [LeA, LeD]
end Go.Proofs.YtidldcfpmehpiaaGreatDoor

namespace Go.Proofs.YtidldcfpmehpiaaGreatDoor
set_option linter.unusedSimpArgs false
set_option linter.unusedVariables false
theorem leD_j (k : Int) {n m : Int} (h : n = m) : LeDs [.int .i64 k, .int .i64 n, .int .i64 0, .int .i64 0, .int .i64 0, .slc 0 [], .slc 0 [], .bool false, .int .i64 0, .slc 0 [], .int .i64 0, .slc 0 [], .int .i64 0, .int .i64 0, .int .i64 0, .slc 0 [], .slc 0 [], .bool false, .int .i64 0, .slc 0 [], .slc 0 [], .slc 0 []] (opD ⟨k, m, zeT, zeC⟩) := by subst h; simp [LeDs, LeD, go_sem, kidsL, cmdsL, opD, zeT, zeC, tstD, cmdD, kidsD, thnD, elsD, Tst.kind, Tst.mat, Tst.part, Tst.names, Tst.keys, Tst.over, Tst.limit, Tst.kids, Cmd.kind, Cmd.texts, Cmd.test, Cmd.thn, Cmd.els]
theorem leD_a (t : Tst) : LeDs [.int .i64 1, .int .i64 0, .int .i64 t.kind, .int .i64 t.mat, .int .i64 t.part, .slc 1 (t.names.map strD), .slc 1 (t.keys.map strD), .bool t.over, .int .i64 t.limit, .slc 8 (kidsD t), .int .i64 0, .slc 0 [], .int .i64 0, .int .i64 0, .int .i64 0, .slc 0 [], .slc 0 [], .bool false, .int .i64 0, .slc 0 [], .slc 0 [], .slc 0 []] (opD ⟨1, 0, t, zeC⟩) := by simp [LeDs, LeD, go_sem, kidsL, cmdsL, opD, zeT, zeC, tstD, cmdD, kidsD, thnD, elsD, Tst.kind, Tst.mat, Tst.part, Tst.names, Tst.keys, Tst.over, Tst.limit, Tst.kids, Cmd.kind, Cmd.texts, Cmd.test, Cmd.thn, Cmd.els]
theorem leD_d (k : Int) (l : List Tx) : LeDs [.int .i64 6, .int .i64 0, .int .i64 0, .int .i64 0, .int .i64 0, .slc 0 [], .slc 0 [], .bool false, .int .i64 0, .slc 0 [], .int .i64 k, .slc 1 (l.map strD), .int .i64 0, .int .i64 0, .int .i64 0, .slc 0 [], .slc 0 [], .bool false, .int .i64 0, .slc 0 [], .slc 0 [], .slc 0 []] (opD ⟨6, 0, zeT, .mk k l zeT [] []⟩) := by simp [LeDs, LeD, go_sem, kidsL, cmdsL, opD, zeT, zeC, tstD, cmdD, kidsD, thnD, elsD, Tst.kind, Tst.mat, Tst.part, Tst.names, Tst.keys, Tst.over, Tst.limit, Tst.kids, Cmd.kind, Cmd.texts, Cmd.test, Cmd.thn, Cmd.els]
theorem LeDR.last {X : List OpS} {o : OpS} {r : List D} (h : LeDs r (opD o)) : LeDR (opsD X ++ [r]) (opsD (X ++ [o])) := by
  rw [opsD, opsD, List.map_append]
  exact (LeDR.rfl' _).app ⟨h, trivial⟩
theorem LeDR.one {o : OpS} {r : List D} (h : LeDs r (opD o)) : LeDR [r] (opsD [o]) := ⟨h, trivial⟩
theorem opsD_ap (A B : List OpS) : opsD A ++ opsD B = opsD (A ++ B) := by simp [opsD]
theorem tON_s {l : List Tst} {k : Nat} (h : k < l.length) : tON (l.take (k + 1)) = tON (l.take k) + (tO l[k]).length := by
  have ha : ∀ a c : List Tst, tON (a ++ c) = tON a + tON c := fun a c => by
    induction a with
    | nil => simp [tON]
    | cons x a ih => rw [List.cons_append, tON, tON, ih]; omega
  rw [List.take_succ_eq_append_getElem h, ha, tON, tON]; rfl
theorem tON_le {l : List Tst} {k : Nat} (h : k < l.length) : tON (l.take k) + (tO l[k]).length ≤ tON l := by
  have ha : ∀ a c : List Tst, tON (a ++ c) = tON a + tON c := fun a c => by
    induction a with
    | nil => simp [tON]
    | cons x a ih => rw [List.cons_append, tON, tON, ih]; omega
  have := ha (l.take (k + 1)) (l.drop (k + 1))
  rw [List.take_append_drop, tON_s h] at this
  omega
theorem tOL_le : ∀ (l : List Tst) (kd n : Int) (f : Bool) (Y : List OpS), Y.length ≤ (tOL l kd n f Y).length
  | [], kd, n, f, Y => by rw [tOL]; exact Nat.le_refl _
  | t :: l, kd, n, f, Y => by
    rw [tOL]
    refine Nat.le_trans ?_ (tOL_le l kd n false _)
    split <;> simp <;> omega
theorem tOL_s {l : List Tst} {k : Nat} {kd n : Int} {Y : List OpS} (h : k < l.length) : tOL (l.drop k) kd n false Y = tOL (l.drop (k + 1)) kd n false (Y ++ [⟨kd, n, zeT, zeC⟩] ++ opsMv (Y ++ [(⟨kd, n, zeT, zeC⟩ : OpS)]).length (tO l[k])) := by
  rw [List.drop_eq_getElem_cons h, tOL, if_neg (by decide)]
theorem tOL_s0 {l : List Tst} {kd n : Int} {Y : List OpS} (h : 0 < l.length) : tOL l kd n true Y = tOL (l.drop 1) kd n false (Y ++ opsMv Y.length (tO l[0])) := by
  cases l with
  | nil => simp at h
  | cons x l => rw [tOL, if_pos rfl]; rfl
attribute [local go_sem] tstA tstD List.map_cons List.map_nil List.cons_append List.nil_append icast8 opsD_len opsMv_len opsD_ap in
set_option maxRecDepth 20000 in
set_option maxHeartbeats 4000000 in
theorem testOps_s (T : Tbl) (t : Tst) (ok : t.Ok) (hk3 : t.kind = 3 → 0 < t.kids.length) (hl : (tO t).length ≤ 1000000) (ih : ∀ y ∈ t.kids, (tO y).length ≤ 1000000 → ∀ (F : List (Nat × Ob)) (L : List Nat), AC Tryz.prog T 66 [.agg (tstA y)] ⟨F, L⟩ (fun x h => ∃ v, freshT v L ∧ x = .ret (.own v 22 (opsD (tO y))) ∧ h = ⟨F, v :: L⟩)) (F : List (Nat × Ob)) (L : List Nat) : AC Tryz.prog T 66 [.agg (tstA t)] (⟨F, L⟩) (fun x h => ∃ v, freshT v L ∧ x = .ret (.own v 22 (opsD (tO t))) ∧ h = ⟨F, v :: L⟩) := by
 refine ⟨Tryz.call66, ACalls.enterS Tryz.func66 rfl Tryz.ntmps66 rfl fun hb => ?_⟩
 obtain ⟨s1, s2, s3, s4⟩ := ok.inv
 simp only [go_sem, Tryz.results66]
 refine Zx ?_
 try simp only [go_sem]
 (repeat (with_reducible refine And.intro ZS ?_))
 intro b1
 first | intro fb1 | have fb1 := True.intro
 try simp only [freshL] at fb1
 try simp only [go_sem, fb1]
 (repeat (with_reducible refine And.intro ZS ?_))
 refine Zs ?_
 refine Zp 34 ?_
 refine Zc (fun hc0 => ?_) fun hc0 => ?_
 ·
  have h0 := hk3 hc0
  have e1 : tO t = tO (t.kids[0]) ++ [⟨2, 0, zeT, zeC⟩] := by rw [tO_eq, if_pos hc0, tO1_0 h0]
  rw [e1] at hl ⊢
  simp at hl
  have zf1 := fun d0_ => kidsD_get t 0 d0_ h0
  refine Zx ?_
  try simp only [go_sem, fb1, zf1]
  (repeat (with_reducible refine And.intro ZS ?_))
  refine DW.acp [] [] rfl rfl rfl rfl (by (try simp only [go_sem, fb1, zf1]) <;> rfl) rfl (ih _ (List.getElem_mem h0) (by omega) _ _) ?_
  rintro _ _ ⟨W1, fW1, rfl, rfl⟩
  try simp only [freshT, freshL] at fW1
  try simp only [go_sem, fb1, zf1, fW1]
  (repeat (with_reducible refine And.intro ZS ?_))
  refine DW.app rfl rfl rfl rfl (show slI Tryz.prog 24 = some (74, 22, 320) by simp only [go_sem]) rfl rfl (by simp only [go_sem, fb1, zf1, fW1]) (by first | exact .inl rfl | exact .inr rfl) (by (try simp only [go_sem, List.length_map, List.length_take, opsD_len, opsMv_len, List.length_append, List.length_cons, List.length_nil]); first | done | omega) (by (try simp only [go_sem, List.length_map, List.length_take, opsD_len, opsMv_len, List.length_append, List.length_cons, List.length_nil]); first | done | omega) fun t1 ft1 => ?_
  try simp only [freshT] at ft1
  try simp only [go_sem, fb1, zf1, fW1, ft1]
  (repeat (with_reducible refine And.intro ZS ?_))
  refine Zm 2 ?_
  simp only [go_sem]
  refine AWp.wkO 2 rfl (LeDR.last (leD_j _ rfl)) rfl ?_
  simp only [go_sem]
  refine AWp.ret ?_
  try simp only [thenQ, blkQ]
  apply endW_r [b1] [] [] [] (by (try simp only [go_sem, fb1, zf1, fW1, ft1]) <;> rfl)
  · exact ⟨t1, by first | exact ft1 | exact ft1.2 | exact ft1.2.2 | exact ft1.1 | trivial | assumption, rfl, by first | rfl | (simp only [go_sem, fb1, zf1, fW1, ft1]; done)⟩
  · simp [LeA, LeL]
 refine Zk ?_
 refine Zs ?_
 refine Zp 513 ?_
 refine Zc (fun hc1 => ?_) fun hc1 => ?_
 ·
  have h45 : ¬ (t.kind = 4 ∨ t.kind = 5) := by omega
  have e1 : tO t = [⟨1, 0, t, zeC⟩] := by rw [tO_eq, if_neg hc0, if_neg h45]
  rw [e1]
  refine Z1 1 (strsCopy_c T t.names s1) ?_
  refine Z1 1 (strsCopy_c T t.keys s2) ?_
  refine AWp.cut 2 fun K_ hK_ => ?_
  simp only [List.take_succ_cons, List.take_zero, List.drop_succ_cons, List.drop_zero]
  try simp only [go_sem, fb1]
  (repeat (with_reducible refine And.intro ZS ?_))
  refine DW.bsO (he := by first | rfl | kernel_rfl) rfl rfl (show slI Tryz.prog 24 = some (74, 22, 320) by simp only [go_sem]) (by (try simp only [go_sem, fb1]) <;> rfl) rfl (by decide) fun t2 ft2 => ?_
  try simp only [freshT] at ft2
  try simp only [go_sem, fb1, ft2]
  (repeat (with_reducible refine And.intro ZS ?_))
  refine hK_ _ _ ?_
  refine Zm 2 ?_
  simp only [go_sem]
  refine AWp.wkO 2 rfl (LeDR.one (leD_a t)) rfl ?_
  simp only [go_sem]
  refine AWp.ret ?_
  try simp only [thenQ, blkQ]
  apply endW_r [b1] [] [] [] (by (try simp only [go_sem, fb1, ft2]) <;> rfl)
  · exact ⟨t2, by first | exact ft2 | exact ft2.2 | exact ft2.2.2 | exact ft2.1 | trivial | assumption, rfl, by first | rfl | (simp only [go_sem, fb1, ft2]; done)⟩
  · simp [LeA, LeL]
 have h45 : t.kind = 4 ∨ t.kind = 5 := by omega
 have e1 : tO t = tOL t.kids (if t.kind = 5 then 3 else 4) ((t.kids.length : Int) - 1 + (tON t.kids : Nat)) true [] := by rw [tO_eq, if_neg hc0, if_pos h45]
 rw [e1] at hl ⊢
 refine Zk ?_
 refine Zp 3 ?_
 refine Zs ?_
 refine Zp 19 ?_
 refine Zc (fun hc2 => ?_) fun hc2 => ?_
 ·
  rw [if_pos hc2] at hl ⊢
  refine Zr (thenQ_n ?_)
  have hNN : t.kids.length + tON t.kids ≤ 1000001 := by
    cases hq : t.kids with
    | nil => simp [tON]
    | cons x l => rw [hq, tOL_len1] at hl; simp only [List.length_cons]; omega
  refine Zp 7 ?_
  refine Zs ?_
  refine Zp 15 ?_
  refine AWp.block ?_
  simp only [go_sem]
  refine Zl 3 12 (fun n lc hc => ∃ (k : Nat), n = t.kids.length - k ∧ EqS lc [(4, .d (.int .i64 ((t.kids.length : Int) - 1 + (tON (t.kids.take k) : Nat)))), (5, .d (.int .i64 (k : Nat)))] ∧ EqS hc (⟨(b1, ⟨8, 1, [tstA t]⟩) :: F, L⟩) ∧ (k ≤ t.kids.length)) ?_ ?_
  · refine ⟨_, 0, rfl, ?_, ZE, ZI⟩
    · (try simp only [go_sem, fb1]) <;> first | exact ⟨rfl⟩ | (constructor; simp [tON]; done)
  rintro _ _ _ ⟨k, rfl, ⟨rfl⟩, ⟨rfl⟩, h1⟩
  simp only [go_sem]
  refine Zs ?_
  refine Zp 271 ?_
  refine Zc (fun hc3 => ?_) fun hc3 => ?_
  ·
   have hlt : k < t.kids.length := by omega
   have hki : (k : Int) < (t.kids.length : Int) := by omega
   have hts := tON_le hlt
   have zf2 := fun d0_ => kidsD_get t k d0_ hlt
   refine Zk ?_
   refine Zs ?_
   refine AWp.block ?_
   refine Zq fun K_ k_ => ?_
   try simp only [go_sem, fb1, zf2, hki]
   (repeat (with_reducible refine And.intro ZS ?_))
   refine DW.acp [] [] rfl rfl rfl rfl (by (try simp only [go_sem, fb1, zf2, hki]) <;> rfl) rfl (ih _ (List.getElem_mem hlt) (by omega) _ _) ?_
   rintro _ _ ⟨U2, fU2, rfl, rfl⟩
   try simp only [freshT, freshL] at fU2
   try simp only [go_sem, fb1, zf2, hki, fU2]
   (repeat (with_reducible refine And.intro ZS ?_))
   refine k_ _ _ (blkQ_n (thenQ_n ?_))
   refine Zm 15 ?_
   refine Zr (thenQ_n ?_)
   refine Ze 3 12 [] [U2] [b1] [] (.e ⟨_, ZM, k + 1, rfl, ?_, ZE, ZN⟩)
   · (try simp only [go_sem, fb1, zf2, hki, fU2]) <;> first | exact ⟨rfl⟩ | (constructor; rw [tON_s hlt]; simp; omega)
  have htk : t.kids.take k = t.kids := List.take_of_length_le (by omega)
  rw [htk]
  refine AWp.exit (thenQ_e (thenQ_e (blkQ_e (thenQ_n ?_))))
  refine Zp 23 ?_
  refine Zs ?_
  refine Zp 31 ?_
  refine AWp.block ?_
  simp only [go_sem]
  refine AWp.ownNilS 6 22 rfl rfl (by decide) fun u0 fu0 => ?_
  try simp only [freshT] at fu0
  simp only [go_sem]
  refine Zl 7 24 (fun n lc hc => ∃ (k u : Nat) (Y : List OpS), n = t.kids.length - k ∧ EqS lc [(6, .own u 22 (opsD Y)), (7, .d (.int .i64 (k : Nat)))] ∧ EqS hc (⟨(b1, ⟨8, 1, [tstA t]⟩) :: F, u :: L⟩) ∧ (k ≤ t.kids.length) ∧ (tOL t.kids 3 ((t.kids.length : Int) - 1 + (tON t.kids : Nat)) true [] = tOL (t.kids.drop k) 3 ((t.kids.length : Int) - 1 + (tON t.kids : Nat)) (decide (k = 0)) Y) ∧ (freshT u L)) ?_ ?_
  · refine ⟨_, 0, u0, [], rfl, ?_, ZE, ?_, ?_, ?_⟩
    · (try simp only [go_sem, fb1, fu0]) <;> first | exact ⟨rfl⟩ | (constructor; rfl)
    all_goals (first | omega | rfl | exact fu0 | assumption)
  rintro _ _ _ ⟨k, u, Y, rfl, ⟨rfl⟩, ⟨rfl⟩, m1, m2, m3⟩
  simp only [go_sem]
  refine Zs ?_
  refine Zp 543 ?_
  refine Zc (fun hc4 => ?_) fun hc4 => ?_
  ·
   have hlt : k < t.kids.length := by omega
   have hki : (k : Int) < (t.kids.length : Int) := by omega
   have zf3 := fun d0_ => kidsD_get t k d0_ hlt
   refine Zk ?_
   refine Zs ?_
   refine AWp.block ?_
   refine Zs ?_
   refine Zp 159 ?_
   refine Zc (fun hc5 => ?_) fun hc5 => ?_
   ·
    have e2 : tOL t.kids 3 ((t.kids.length : Int) - 1 + (tON t.kids : Nat)) true [] = tOL (t.kids.drop (k + 1)) 3 ((t.kids.length : Int) - 1 + (tON t.kids : Nat)) false (Y ++ [⟨3, ((t.kids.length : Int) - 1 + (tON t.kids : Nat)), zeT, zeC⟩] ++ opsMv (Y ++ [(⟨3, ((t.kids.length : Int) - 1 + (tON t.kids : Nat)), zeT, zeC⟩ : OpS)]).length (tO t.kids[k])) := by rw [m2, decide_eq_false (by omega : ¬ k = 0), tOL_s hlt]
    have hb : (Y ++ [(⟨3, ((t.kids.length : Int) - 1 + (tON t.kids : Nat)), zeT, zeC⟩ : OpS)] ++ opsMv (Y ++ [(⟨3, ((t.kids.length : Int) - 1 + (tON t.kids : Nat)), zeT, zeC⟩ : OpS)]).length (tO t.kids[k])).length ≤ 1000000 := by
      have := tOL_le (t.kids.drop (k + 1)) 3 ((t.kids.length : Int) - 1 + (tON t.kids : Nat)) false (Y ++ [⟨3, ((t.kids.length : Int) - 1 + (tON t.kids : Nat)), zeT, zeC⟩] ++ opsMv (Y ++ [(⟨3, ((t.kids.length : Int) - 1 + (tON t.kids : Nat)), zeT, zeC⟩ : OpS)]).length (tO t.kids[k]))
      rw [← e2] at this
      omega
    simp only [List.length_append, opsMv_len, List.length_cons, List.length_nil] at hb
    refine Zq fun K_ k_ => ?_
    try simp only [go_sem, fb1, fu0, zf3, hki]
    (repeat (with_reducible refine And.intro ZS ?_))
    refine DW.app rfl rfl rfl rfl (show slI Tryz.prog 24 = some (74, 22, 320) by simp only [go_sem]) rfl rfl (by simp only [go_sem, fb1, fu0, zf3, hki]) (by first | exact .inl rfl | exact .inr rfl) (by (try simp only [go_sem, List.length_map, List.length_take, opsD_len, opsMv_len, List.length_append, List.length_cons, List.length_nil]); first | done | omega) (by (try simp only [go_sem, List.length_map, List.length_take, opsD_len, opsMv_len, List.length_append, List.length_cons, List.length_nil]); first | done | omega) fun t3 ft3 => ?_
    try simp only [freshT] at ft3
    try simp only [go_sem, fb1, fu0, zf3, hki, ft3]
    (repeat (with_reducible refine And.intro ZS ?_))
    refine k_ _ _ (thenQ_n ?_)
    refine Zm 31 ?_
    simp only [go_sem]
    refine AWp.wkO 6 rfl (LeDR.last (leD_j _ rfl)) rfl ?_
    simp only [go_sem]
    refine Zx ?_
    try simp only [go_sem, fb1, fu0, zf3, hki, ft3]
    (repeat (with_reducible refine And.intro ZS ?_))
    refine DW.acp [] [] rfl rfl rfl rfl (by (try simp only [go_sem, fb1, fu0, zf3, hki, ft3]) <;> rfl) rfl (ih _ (List.getElem_mem hlt) (by omega) _ _) ?_
    rintro _ _ ⟨V3, fV3, rfl, rfl⟩
    try simp only [freshT, freshL] at fV3
    try simp only [go_sem, fb1, fu0, zf3, hki, ft3, fV3]
    (repeat (with_reducible refine And.intro ZS ?_))
    refine Zm 63 ?_
    simp only [go_sem]
    refine AWp.ownD 8 rfl (LeDR.rfl' _) rfl ?_
    simp only [go_sem]
    refine Zq fun K_ k_ => ?_
    try simp only [go_sem, fb1, fu0, zf3, hki, ft3, fV3]
    (repeat (with_reducible refine And.intro ZS ?_))
    refine DW.pcr rfl rfl rfl rfl (moved_c T (tO t.kids[k]) (Y ++ [(⟨3, ((t.kids.length : Int) - 1 + (tON t.kids : Nat)), zeT, zeC⟩ : OpS)]).length (by omega) (fun o ho => by have := tO_dst _ o ho; omega) (by first | omega | (simp; omega))) rfl rfl ?_
    try simp only [go_sem, fb1, fu0, zf3, hki, ft3, fV3]
    (repeat (with_reducible refine And.intro ZS ?_))
    refine DW.app rfl rfl rfl rfl (show slI Tryz.prog 24 = some (74, 22, 320) by simp only [go_sem]) rfl rfl (by simp only [go_sem, fb1, fu0, zf3, hki, ft3, fV3]) (by first | exact .inl rfl | exact .inr rfl) (by (try simp only [go_sem, List.length_map, List.length_take, opsD_len, opsMv_len, List.length_append, List.length_cons, List.length_nil]); first | done | omega) (by (try simp only [go_sem, List.length_map, List.length_take, opsD_len, opsMv_len, List.length_append, List.length_cons, List.length_nil]); first | done | omega) fun t4 ft4 => ?_
    try simp only [freshT] at ft4
    try simp only [go_sem, fb1, fu0, zf3, hki, ft3, fV3, ft4]
    (repeat (with_reducible refine And.intro ZS ?_))
    refine k_ _ _ (blkQ_n (thenQ_n ?_))
    refine Zm 31 ?_
    refine Zr (thenQ_n ?_)
    refine Ze 7 24 [] [V3] [b1] [t4] (.e ⟨_, ZM, k + 1, t4, (Y ++ [(⟨3, ((t.kids.length : Int) - 1 + (tON t.kids : Nat)), zeT, zeC⟩ : OpS)] ++ opsMv (Y ++ [(⟨3, ((t.kids.length : Int) - 1 + (tON t.kids : Nat)), zeT, zeC⟩ : OpS)]).length (tO t.kids[k])), rfl, ?_, ZE, ?_, ?_, ?_⟩)
    · (try simp only [go_sem, fb1, fu0, zf3, hki, ft3, fV3, ft4]) <;> first | exact ⟨rfl⟩ | (constructor; first | rfl | (simp; done))
    · omega
    · exact e2.trans (by rw [decide_eq_false (by omega : ¬ k + 1 = 0)])
    · first | exact ft4 | exact ft4.2 | exact ft4.2.2 | exact ft4.1 | trivial | assumption
   have e2 : tOL t.kids 3 ((t.kids.length : Int) - 1 + (tON t.kids : Nat)) true [] = tOL (t.kids.drop (k + 1)) 3 ((t.kids.length : Int) - 1 + (tON t.kids : Nat)) false (Y ++ opsMv Y.length (tO t.kids[k])) := by
     have hk0 : k = 0 := by omega
     rw [m2]
     subst hk0
     exact tOL_s0 hlt
   have hb : (Y ++ opsMv Y.length (tO t.kids[k])).length ≤ 1000000 := by
     have := tOL_le (t.kids.drop (k + 1)) 3 ((t.kids.length : Int) - 1 + (tON t.kids : Nat)) false (Y ++ opsMv Y.length (tO t.kids[k]))
     rw [← e2] at this
     omega
   simp only [List.length_append, opsMv_len] at hb
   refine Zk ?_
   refine Zx ?_
   try simp only [go_sem, fb1, fu0, zf3, hki]
   (repeat (with_reducible refine And.intro ZS ?_))
   refine DW.acp [] [] rfl rfl rfl rfl (by (try simp only [go_sem, fb1, fu0, zf3, hki]) <;> rfl) rfl (ih _ (List.getElem_mem hlt) (by omega) _ _) ?_
   rintro _ _ ⟨V4, fV4, rfl, rfl⟩
   try simp only [freshT, freshL] at fV4
   try simp only [go_sem, fb1, fu0, zf3, hki, fV4]
   (repeat (with_reducible refine And.intro ZS ?_))
   refine Zm 63 ?_
   simp only [go_sem]
   refine AWp.ownD 8 rfl (LeDR.rfl' _) rfl ?_
   simp only [go_sem]
   refine Zq fun K_ k_ => ?_
   try simp only [go_sem, fb1, fu0, zf3, hki, fV4]
   (repeat (with_reducible refine And.intro ZS ?_))
   refine DW.pcr rfl rfl rfl rfl (moved_c T (tO t.kids[k]) Y.length (by omega) (fun o ho => by have := tO_dst _ o ho; omega) (by first | omega | (simp; omega))) rfl rfl ?_
   try simp only [go_sem, fb1, fu0, zf3, hki, fV4]
   (repeat (with_reducible refine And.intro ZS ?_))
   refine DW.app rfl rfl rfl rfl (show slI Tryz.prog 24 = some (74, 22, 320) by simp only [go_sem]) rfl rfl (by simp only [go_sem, fb1, fu0, zf3, hki, fV4]) (by first | exact .inl rfl | exact .inr rfl) (by (try simp only [go_sem, List.length_map, List.length_take, opsD_len, opsMv_len, List.length_append, List.length_cons, List.length_nil]); first | done | omega) (by (try simp only [go_sem, List.length_map, List.length_take, opsD_len, opsMv_len, List.length_append, List.length_cons, List.length_nil]); first | done | omega) fun t5 ft5 => ?_
   try simp only [freshT] at ft5
   try simp only [go_sem, fb1, fu0, zf3, hki, fV4, ft5]
   (repeat (with_reducible refine And.intro ZS ?_))
   refine k_ _ _ (blkQ_n (thenQ_n ?_))
   refine Zm 31 ?_
   refine Zr (thenQ_n ?_)
   refine Ze 7 24 [] [V4] [b1] [t5] (.e ⟨_, ZM, k + 1, t5, (Y ++ opsMv Y.length (tO t.kids[k])), rfl, ?_, ZE, ?_, ?_, ?_⟩)
   · (try simp only [go_sem, fb1, fu0, zf3, hki, fV4, ft5]) <;> first | exact ⟨rfl⟩ | (constructor; first | rfl | (simp; done))
   · omega
   · exact e2.trans (by rw [decide_eq_false (by omega : ¬ k + 1 = 0)])
   · first | exact ft5 | exact ft5.2 | exact ft5.2.2 | exact ft5.1 | trivial | assumption
  have e2 : tOL t.kids 3 ((t.kids.length : Int) - 1 + (tON t.kids : Nat)) true [] = Y := by rw [m2, List.drop_eq_nil_of_le (by omega), tOL]
  rw [e2]
  refine AWp.exit (thenQ_e (thenQ_e (blkQ_e (thenQ_n ?_))))
  refine Zm 8 ?_
  refine Zp 1 ?_
  refine AWp.ret ?_
  try simp only [thenQ, blkQ]
  apply endW_r [b1] [] [] [] (by (try simp only [go_sem, fb1, fu0]) <;> rfl)
  · exact ⟨u, by first | exact fu | exact fu.2 | exact fu.2.2 | exact fu.1 | trivial | assumption, rfl, by first | rfl | (simp only [go_sem, fb1, fu0]; done)⟩
  · simp [LeA, LeL]
 rw [if_neg hc2] at hl ⊢
 refine Zk ?_
 have hNN : t.kids.length + tON t.kids ≤ 1000001 := by
   cases hq : t.kids with
   | nil => simp [tON]
   | cons x l => rw [hq, tOL_len1] at hl; simp only [List.length_cons]; omega
 refine Zp 7 ?_
 refine Zs ?_
 refine Zp 15 ?_
 refine AWp.block ?_
 simp only [go_sem]
 refine Zl 3 12 (fun n lc hc => ∃ (k : Nat), n = t.kids.length - k ∧ EqS lc [(4, .d (.int .i64 ((t.kids.length : Int) - 1 + (tON (t.kids.take k) : Nat)))), (5, .d (.int .i64 (k : Nat)))] ∧ EqS hc (⟨(b1, ⟨8, 1, [tstA t]⟩) :: F, L⟩) ∧ (k ≤ t.kids.length)) ?_ ?_
 · refine ⟨_, 0, rfl, ?_, ZE, ZI⟩
   · (try simp only [go_sem, fb1]) <;> first | exact ⟨rfl⟩ | (constructor; simp [tON]; done)
 rintro _ _ _ ⟨k, rfl, ⟨rfl⟩, ⟨rfl⟩, h1⟩
 simp only [go_sem]
 refine Zs ?_
 refine Zp 271 ?_
 refine Zc (fun hc3 => ?_) fun hc3 => ?_
 ·
  have hlt : k < t.kids.length := by omega
  have hki : (k : Int) < (t.kids.length : Int) := by omega
  have hts := tON_le hlt
  have zf4 := fun d0_ => kidsD_get t k d0_ hlt
  refine Zk ?_
  refine Zs ?_
  refine AWp.block ?_
  refine Zq fun K_ k_ => ?_
  try simp only [go_sem, fb1, zf4, hki]
  (repeat (with_reducible refine And.intro ZS ?_))
  refine DW.acp [] [] rfl rfl rfl rfl (by (try simp only [go_sem, fb1, zf4, hki]) <;> rfl) rfl (ih _ (List.getElem_mem hlt) (by omega) _ _) ?_
  rintro _ _ ⟨U5, fU5, rfl, rfl⟩
  try simp only [freshT, freshL] at fU5
  try simp only [go_sem, fb1, zf4, hki, fU5]
  (repeat (with_reducible refine And.intro ZS ?_))
  refine k_ _ _ (blkQ_n (thenQ_n ?_))
  refine Zm 15 ?_
  refine Zr (thenQ_n ?_)
  refine Ze 3 12 [] [U5] [b1] [] (.e ⟨_, ZM, k + 1, rfl, ?_, ZE, ZN⟩)
  · (try simp only [go_sem, fb1, zf4, hki, fU5]) <;> first | exact ⟨rfl⟩ | (constructor; rw [tON_s hlt]; simp; omega)
 have htk : t.kids.take k = t.kids := List.take_of_length_le (by omega)
 rw [htk]
 refine AWp.exit (thenQ_e (thenQ_e (blkQ_e (thenQ_n ?_))))
 refine Zp 23 ?_
 refine Zs ?_
 refine Zp 31 ?_
 refine AWp.block ?_
 simp only [go_sem]
 refine AWp.ownNilS 6 22 rfl rfl (by decide) fun u0 fu0 => ?_
 try simp only [freshT] at fu0
 simp only [go_sem]
 refine Zl 7 24 (fun n lc hc => ∃ (k u : Nat) (Y : List OpS), n = t.kids.length - k ∧ EqS lc [(6, .own u 22 (opsD Y)), (7, .d (.int .i64 (k : Nat)))] ∧ EqS hc (⟨(b1, ⟨8, 1, [tstA t]⟩) :: F, u :: L⟩) ∧ (k ≤ t.kids.length) ∧ (tOL t.kids 4 ((t.kids.length : Int) - 1 + (tON t.kids : Nat)) true [] = tOL (t.kids.drop k) 4 ((t.kids.length : Int) - 1 + (tON t.kids : Nat)) (decide (k = 0)) Y) ∧ (freshT u L)) ?_ ?_
 · refine ⟨_, 0, u0, [], rfl, ?_, ZE, ?_, ?_, ?_⟩
   · (try simp only [go_sem, fb1, fu0]) <;> first | exact ⟨rfl⟩ | (constructor; rfl)
   all_goals (first | omega | rfl | exact fu0 | assumption)
 rintro _ _ _ ⟨k, u, Y, rfl, ⟨rfl⟩, ⟨rfl⟩, m1, m2, m3⟩
 simp only [go_sem]
 refine Zs ?_
 refine Zp 543 ?_
 refine Zc (fun hc4 => ?_) fun hc4 => ?_
 ·
  have hlt : k < t.kids.length := by omega
  have hki : (k : Int) < (t.kids.length : Int) := by omega
  have zf5 := fun d0_ => kidsD_get t k d0_ hlt
  refine Zk ?_
  refine Zs ?_
  refine AWp.block ?_
  refine Zs ?_
  refine Zp 159 ?_
  refine Zc (fun hc5 => ?_) fun hc5 => ?_
  ·
   have e2 : tOL t.kids 4 ((t.kids.length : Int) - 1 + (tON t.kids : Nat)) true [] = tOL (t.kids.drop (k + 1)) 4 ((t.kids.length : Int) - 1 + (tON t.kids : Nat)) false (Y ++ [⟨4, ((t.kids.length : Int) - 1 + (tON t.kids : Nat)), zeT, zeC⟩] ++ opsMv (Y ++ [(⟨4, ((t.kids.length : Int) - 1 + (tON t.kids : Nat)), zeT, zeC⟩ : OpS)]).length (tO t.kids[k])) := by rw [m2, decide_eq_false (by omega : ¬ k = 0), tOL_s hlt]
   have hb : (Y ++ [(⟨4, ((t.kids.length : Int) - 1 + (tON t.kids : Nat)), zeT, zeC⟩ : OpS)] ++ opsMv (Y ++ [(⟨4, ((t.kids.length : Int) - 1 + (tON t.kids : Nat)), zeT, zeC⟩ : OpS)]).length (tO t.kids[k])).length ≤ 1000000 := by
     have := tOL_le (t.kids.drop (k + 1)) 4 ((t.kids.length : Int) - 1 + (tON t.kids : Nat)) false (Y ++ [⟨4, ((t.kids.length : Int) - 1 + (tON t.kids : Nat)), zeT, zeC⟩] ++ opsMv (Y ++ [(⟨4, ((t.kids.length : Int) - 1 + (tON t.kids : Nat)), zeT, zeC⟩ : OpS)]).length (tO t.kids[k]))
     rw [← e2] at this
     omega
   simp only [List.length_append, opsMv_len, List.length_cons, List.length_nil] at hb
   refine Zq fun K_ k_ => ?_
   try simp only [go_sem, fb1, fu0, zf5, hki]
   (repeat (with_reducible refine And.intro ZS ?_))
   refine DW.app rfl rfl rfl rfl (show slI Tryz.prog 24 = some (74, 22, 320) by simp only [go_sem]) rfl rfl (by simp only [go_sem, fb1, fu0, zf5, hki]) (by first | exact .inl rfl | exact .inr rfl) (by (try simp only [go_sem, List.length_map, List.length_take, opsD_len, opsMv_len, List.length_append, List.length_cons, List.length_nil]); first | done | omega) (by (try simp only [go_sem, List.length_map, List.length_take, opsD_len, opsMv_len, List.length_append, List.length_cons, List.length_nil]); first | done | omega) fun t6 ft6 => ?_
   try simp only [freshT] at ft6
   try simp only [go_sem, fb1, fu0, zf5, hki, ft6]
   (repeat (with_reducible refine And.intro ZS ?_))
   refine k_ _ _ (thenQ_n ?_)
   refine Zm 31 ?_
   simp only [go_sem]
   refine AWp.wkO 6 rfl (LeDR.last (leD_j _ rfl)) rfl ?_
   simp only [go_sem]
   refine Zx ?_
   try simp only [go_sem, fb1, fu0, zf5, hki, ft6]
   (repeat (with_reducible refine And.intro ZS ?_))
   refine DW.acp [] [] rfl rfl rfl rfl (by (try simp only [go_sem, fb1, fu0, zf5, hki, ft6]) <;> rfl) rfl (ih _ (List.getElem_mem hlt) (by omega) _ _) ?_
   rintro _ _ ⟨V6, fV6, rfl, rfl⟩
   try simp only [freshT, freshL] at fV6
   try simp only [go_sem, fb1, fu0, zf5, hki, ft6, fV6]
   (repeat (with_reducible refine And.intro ZS ?_))
   refine Zm 63 ?_
   simp only [go_sem]
   refine AWp.ownD 8 rfl (LeDR.rfl' _) rfl ?_
   simp only [go_sem]
   refine Zq fun K_ k_ => ?_
   try simp only [go_sem, fb1, fu0, zf5, hki, ft6, fV6]
   (repeat (with_reducible refine And.intro ZS ?_))
   refine DW.pcr rfl rfl rfl rfl (moved_c T (tO t.kids[k]) (Y ++ [(⟨4, ((t.kids.length : Int) - 1 + (tON t.kids : Nat)), zeT, zeC⟩ : OpS)]).length (by omega) (fun o ho => by have := tO_dst _ o ho; omega) (by first | omega | (simp; omega))) rfl rfl ?_
   try simp only [go_sem, fb1, fu0, zf5, hki, ft6, fV6]
   (repeat (with_reducible refine And.intro ZS ?_))
   refine DW.app rfl rfl rfl rfl (show slI Tryz.prog 24 = some (74, 22, 320) by simp only [go_sem]) rfl rfl (by simp only [go_sem, fb1, fu0, zf5, hki, ft6, fV6]) (by first | exact .inl rfl | exact .inr rfl) (by (try simp only [go_sem, List.length_map, List.length_take, opsD_len, opsMv_len, List.length_append, List.length_cons, List.length_nil]); first | done | omega) (by (try simp only [go_sem, List.length_map, List.length_take, opsD_len, opsMv_len, List.length_append, List.length_cons, List.length_nil]); first | done | omega) fun t7 ft7 => ?_
   try simp only [freshT] at ft7
   try simp only [go_sem, fb1, fu0, zf5, hki, ft6, fV6, ft7]
   (repeat (with_reducible refine And.intro ZS ?_))
   refine k_ _ _ (blkQ_n (thenQ_n ?_))
   refine Zm 31 ?_
   refine Zr (thenQ_n ?_)
   refine Ze 7 24 [] [V6] [b1] [t7] (.e ⟨_, ZM, k + 1, t7, (Y ++ [(⟨4, ((t.kids.length : Int) - 1 + (tON t.kids : Nat)), zeT, zeC⟩ : OpS)] ++ opsMv (Y ++ [(⟨4, ((t.kids.length : Int) - 1 + (tON t.kids : Nat)), zeT, zeC⟩ : OpS)]).length (tO t.kids[k])), rfl, ?_, ZE, ?_, ?_, ?_⟩)
   · (try simp only [go_sem, fb1, fu0, zf5, hki, ft6, fV6, ft7]) <;> first | exact ⟨rfl⟩ | (constructor; first | rfl | (simp; done))
   · omega
   · exact e2.trans (by rw [decide_eq_false (by omega : ¬ k + 1 = 0)])
   · first | exact ft7 | exact ft7.2 | exact ft7.2.2 | exact ft7.1 | trivial | assumption
  have e2 : tOL t.kids 4 ((t.kids.length : Int) - 1 + (tON t.kids : Nat)) true [] = tOL (t.kids.drop (k + 1)) 4 ((t.kids.length : Int) - 1 + (tON t.kids : Nat)) false (Y ++ opsMv Y.length (tO t.kids[k])) := by
    have hk0 : k = 0 := by omega
    rw [m2]
    subst hk0
    exact tOL_s0 hlt
  have hb : (Y ++ opsMv Y.length (tO t.kids[k])).length ≤ 1000000 := by
    have := tOL_le (t.kids.drop (k + 1)) 4 ((t.kids.length : Int) - 1 + (tON t.kids : Nat)) false (Y ++ opsMv Y.length (tO t.kids[k]))
    rw [← e2] at this
    omega
  simp only [List.length_append, opsMv_len] at hb
  refine Zk ?_
  refine Zx ?_
  try simp only [go_sem, fb1, fu0, zf5, hki]
  (repeat (with_reducible refine And.intro ZS ?_))
  refine DW.acp [] [] rfl rfl rfl rfl (by (try simp only [go_sem, fb1, fu0, zf5, hki]) <;> rfl) rfl (ih _ (List.getElem_mem hlt) (by omega) _ _) ?_
  rintro _ _ ⟨V7, fV7, rfl, rfl⟩
  try simp only [freshT, freshL] at fV7
  try simp only [go_sem, fb1, fu0, zf5, hki, fV7]
  (repeat (with_reducible refine And.intro ZS ?_))
  refine Zm 63 ?_
  simp only [go_sem]
  refine AWp.ownD 8 rfl (LeDR.rfl' _) rfl ?_
  simp only [go_sem]
  refine Zq fun K_ k_ => ?_
  try simp only [go_sem, fb1, fu0, zf5, hki, fV7]
  (repeat (with_reducible refine And.intro ZS ?_))
  refine DW.pcr rfl rfl rfl rfl (moved_c T (tO t.kids[k]) Y.length (by omega) (fun o ho => by have := tO_dst _ o ho; omega) (by first | omega | (simp; omega))) rfl rfl ?_
  try simp only [go_sem, fb1, fu0, zf5, hki, fV7]
  (repeat (with_reducible refine And.intro ZS ?_))
  refine DW.app rfl rfl rfl rfl (show slI Tryz.prog 24 = some (74, 22, 320) by simp only [go_sem]) rfl rfl (by simp only [go_sem, fb1, fu0, zf5, hki, fV7]) (by first | exact .inl rfl | exact .inr rfl) (by (try simp only [go_sem, List.length_map, List.length_take, opsD_len, opsMv_len, List.length_append, List.length_cons, List.length_nil]); first | done | omega) (by (try simp only [go_sem, List.length_map, List.length_take, opsD_len, opsMv_len, List.length_append, List.length_cons, List.length_nil]); first | done | omega) fun t8 ft8 => ?_
  try simp only [freshT] at ft8
  try simp only [go_sem, fb1, fu0, zf5, hki, fV7, ft8]
  (repeat (with_reducible refine And.intro ZS ?_))
  refine k_ _ _ (blkQ_n (thenQ_n ?_))
  refine Zm 31 ?_
  refine Zr (thenQ_n ?_)
  refine Ze 7 24 [] [V7] [b1] [t8] (.e ⟨_, ZM, k + 1, t8, (Y ++ opsMv Y.length (tO t.kids[k])), rfl, ?_, ZE, ?_, ?_, ?_⟩)
  · (try simp only [go_sem, fb1, fu0, zf5, hki, fV7, ft8]) <;> first | exact ⟨rfl⟩ | (constructor; first | rfl | (simp; done))
  · omega
  · exact e2.trans (by rw [decide_eq_false (by omega : ¬ k + 1 = 0)])
  · first | exact ft8 | exact ft8.2 | exact ft8.2.2 | exact ft8.1 | trivial | assumption
 have e2 : tOL t.kids 4 ((t.kids.length : Int) - 1 + (tON t.kids : Nat)) true [] = Y := by rw [m2, List.drop_eq_nil_of_le (by omega), tOL]
 rw [e2]
 refine AWp.exit (thenQ_e (thenQ_e (blkQ_e (thenQ_n ?_))))
 refine Zm 8 ?_
 refine Zp 1 ?_
 refine AWp.ret ?_
 try simp only [thenQ, blkQ]
 apply endW_r [b1] [] [] [] (by (try simp only [go_sem, fb1, fu0]) <;> rfl)
 · exact ⟨u, by first | exact fu | exact fu.2 | exact fu.2.2 | exact fu.1 | trivial | assumption, rfl, by first | rfl | (simp only [go_sem, fb1, fu0]; done)⟩
 · simp [LeA, LeL]
end Go.Proofs.YtidldcfpmehpiaaGreatDoor

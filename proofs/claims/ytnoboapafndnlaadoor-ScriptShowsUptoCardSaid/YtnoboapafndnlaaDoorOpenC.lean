/- Tests, commands, tables: as they are handed in. -/
import Derived.Test.YtnoboapafndnlaaDoorOpenG
import Derived.Test.YtnoboapafndnlaaDoorSck
import Derived.Test.YtnoboapafndnlaaDoorLaid
namespace Go.Proofs.YtnoboapafndnlaaDoor
open Go.RowKit
set_option linter.unusedSimpArgs false
set_option linter.unusedVariables false
open Go.ChangeShapes Go.WideShapes Go.ChangeAt
mutual
def tsz : Tst → Nat
  | .mk _ _ _ n k _ _ l => (n.map fun s => s.length + 1).sum + (k.map fun s => s.length + 1).sum + tszL l + 5
def tszL : List Tst → Nat
  | [] => 0
  | t :: l => tsz t + tszL l
end
theorem tszL_eq (l : List Tst) : tszL l = (l.map tsz).sum := by
  induction l with
  | nil => rfl
  | cons t l ih => rw [tszL, ih]; rfl
mutual
def csz : Cmd → Nat
  | .mk _ x t a b => (x.map fun s => s.length + 1).sum + tsz t + cszL a + cszL b + 5
def cszL : List Cmd → Nat
  | [] => 0
  | t :: l => csz t + cszL l
end
theorem cszL_eq (l : List Cmd) : cszL l = (l.map csz).sum := by
  induction l with
  | nil => rfl
  | cons t l ih => rw [cszL, ih]; rfl
theorem strs_len (l : List Str) : l.length ≤ (l.map fun s => s.length + 1).sum := by
  induction l with
  | nil => simp
  | cons s l ih => simp only [List.map_cons, List.sum_cons, List.length_cons]; omega
theorem tsz_pos (t : Tst) : 5 ≤ tsz t := by cases t; rw [tsz]; omega
theorem csz_pos (t : Cmd) : 5 ≤ csz t := by cases t; rw [csz]; omega
theorem kids_len (l : List Tst) : 5 * l.length ≤ tszL l := by
  induction l with
  | nil => simp [tszL]
  | cons t l ih => have := tsz_pos t; rw [tszL, List.length_cons]; omega
theorem cmds_len (l : List Cmd) : 5 * l.length ≤ cszL l := by
  induction l with
  | nil => simp [cszL]
  | cons t l ih => have := csz_pos t; rw [cszL, List.length_cons]; omega
theorem tsz_mem {x : Tst} {l : List Tst} (h : x ∈ l) : tsz x ≤ tszL l := by
  induction l with
  | nil => simp at h
  | cons t l ih =>
    rw [tszL]
    rcases List.mem_cons.1 h with rfl | h
    · omega
    · have := ih h; omega
theorem csz_mem {x : Cmd} {l : List Cmd} (h : x ∈ l) : csz x ≤ cszL l := by
  induction l with
  | nil => simp at h
  | cons t l ih =>
    rw [cszL]
    rcases List.mem_cons.1 h with rfl | h
    · omega
    · have := ih h; omega
theorem tsz_eq (t : Tst) : tsz t = (t.names.map fun s => s.length + 1).sum + (t.keys.map fun s => s.length + 1).sum + tszL t.kids + 5 := by cases t; rw [tsz]; rfl
theorem csz_eq (t : Cmd) : csz t = (t.texts.map fun s => s.length + 1).sum + tsz t.test + cszL t.thn + cszL t.els + 5 := by cases t; rw [csz]; rfl
theorem Tst.ok_of (t : Tst) (h : tsz t ≤ 1048576) : t.Ok := by
  induction t using Tst.ind with
  | h t ih =>
    rw [tsz_eq] at h
    have h1 := strs_len t.names
    have h2 := strs_len t.keys
    have h3 := kids_len t.kids
    exact ⟨by omega, by omega, by omega, fun x hx => ih x hx (by have := tsz_mem hx; omega)⟩
theorem Cmd.ok_of (t : Cmd) (h : csz t ≤ 1048576) : t.Ok := by
  induction t using Cmd.ind with
  | h t ih ih2 =>
    rw [csz_eq] at h
    have h1 := strs_len t.texts
    have h3 := cmds_len t.thn
    have h4 := cmds_len t.els
    exact ⟨by omega, Tst.ok_of _ (by omega), by omega, by omega, fun x hx => ih x hx (by have := csz_mem hx; omega), fun x hx => ih2 x hx (by have := csz_mem hx; omega)⟩
theorem tT_len (t : Tst) : (tT t).length + 1 ≤ 6 * tsz t := by
  induction t using Tst.ind with
  | h t ih =>
    have hk : (tK t.kids).length ≤ 6 * tszL t.kids := by
      cases hh : t.kids with
      | nil => simp [tK]
      | cons x l => have := ih x (by rw [hh]; simp); rw [tK, tszL]; omega
    have hl : ∀ l f, (∀ x ∈ l, x ∈ t.kids) → (tTL l f).length ≤ 6 * tszL l := fun l => by
      induction l with
      | nil => intro f _; simp [tTL]
      | cons x l il =>
        intro f hm
        have h1 := ih x (hm x (by simp))
        have h2 := il false fun y hy => hm y (by simp [hy])
        rw [tTL, tszL]
        simp only [List.length_cons, List.length_append]
        omega
    have hl := hl t.kids true fun x hx => hx
    have h1 := strs_len t.names
    have h2 := strs_len t.keys
    have h4 := strsT_len t.names
    have h5 := strsT_len t.keys
    rw [tT_eq, tsz_eq]
    repeat' split
    all_goals simp only [List.length_cons, List.length_append, List.length_nil]
    all_goals omega
theorem cmT_len (c : Cmd) : (cmT c).length + 1 ≤ 6 * csz c := by
  induction c using Cmd.ind with
  | h c i1 i2 =>
    have hl : ∀ l, (∀ x ∈ l, (cmT x).length + 1 ≤ 6 * csz x) → (lsT l).length ≤ 6 * cszL l := fun l => by
      induction l with
      | nil => intro _; simp [lsT]
      | cons x l il =>
        intro hm
        have h1 := hm x (by simp)
        have h2 := il fun y hy => hm y (by simp [hy])
        rw [lsT, cszL]
        simp only [List.length_cons, List.length_append]
        omega
    have ha := hl c.thn i1
    have hb := hl c.els i2
    have hel : (elT c.els).length ≤ 6 * cszL c.els + 3 := by
      rcases Nat.eq_zero_or_pos c.els.length with h0 | h0
      · rw [elT_0 c h0]; simp
      · cases he : elsifC c with
        | true =>
          rw [elT_t c he h0]
          have := i2 _ (List.getElem_mem h0)
          have := csz_mem (List.getElem_mem h0)
          simp only [List.length_cons]
          omega
        | false =>
          rw [elT_f c he h0]
          simp only [List.length_cons, List.length_append, List.length_nil]
          omega
    have h1 := strs_len c.texts
    have h4 := strsT_len c.texts
    have h5 := tT_len c.test
    rw [cmT_eq, csz_eq]
    repeat' split
    all_goals simp only [List.length_cons, List.length_append, List.length_nil]
    all_goals omega
theorem lsT_len (l : List Cmd) : (lsT l).length ≤ 6 * cszL l := by
  induction l with
  | nil => simp [lsT]
  | cons x l ih =>
    have := cmT_len x
    rw [lsT, cszL]
    simp only [List.length_cons, List.length_append]
    omega
section
variable {H : Type} {enc : TypeId × Value → H} {W : World}
theorem dec_strs (f : Nat) : Dec enc Tryd.prog W (fun l : List Str => [.slc 1 (l.map strD)]) (fun l => (l.map fun s => s.length + 1).sum + 1) 65 f := by
  cases f with
  | zero => exact Dec.zero
  | succ f => exact Dec.slc (Dec.str Tryd.underlying9) Tryd.underlying65 (by kernel_rfl) (fun _ => rfl) (by decide)
set_option maxRecDepth 100000 in
theorem dec_tst (f : Nat) : Dec enc Tryd.prog W tstD tsz 96 f := by
  induction f with
  | zero => exact Dec.zero
  | succ f ih =>
    have hk : Dec enc Tryd.prog W (fun l : List Tst => [.slc 8 (l.map tstD)]) (fun l => (l.map tsz).sum + 1) 94 f := by
      cases f with
      | zero => exact Dec.zero
      | succ f => exact Dec.slc (ih.le (by omega)) Tryd.underlying94 (by kernel_rfl) (fun _ => rfl) (by decide)
    have hi : Dec enc Tryd.prog W (fun n : Int => [.int .i64 n]) (fun _ => 1) 3 f := Dec.int Tryd.underlying3
    have hb : Dec enc Tryd.prog W (fun n : Bool => [.bool n]) (fun _ => 1) 4 f := Dec.bool Tryd.underlying4
    have hs := dec_strs (enc := enc) (W := W) f
    exact (Dec.struct Tryd.underlying96 (by kernel_rfl) (.cons (k := 1) hi (by kernel_rfl) rfl (.cons (k := 1) hi (by kernel_rfl) rfl (.cons (k := 1) hi (by kernel_rfl) rfl (.cons (k := 1) hs (by kernel_rfl) rfl (.cons (k := 1) hs (by kernel_rfl) rfl (.cons (k := 1) hb (by kernel_rfl) rfl (.cons (k := 1) hi (by kernel_rfl) rfl (.cons (k := 1) hk (by kernel_rfl) rfl .nil))))))))).map
        (fun p => Tst.mk p.1 p.2.1 p.2.2.1 p.2.2.2.1 p.2.2.2.2.1 p.2.2.2.2.2.1 p.2.2.2.2.2.2.1 p.2.2.2.2.2.2.2.1) (fun p => by simp [tstD, kidsD_eq, Tst.kind, Tst.mat, Tst.part, Tst.names, Tst.keys, Tst.over, Tst.limit, Tst.kids]) (fun p => by rw [tsz, tszL_eq]; omega)
set_option maxRecDepth 100000 in
theorem dec_cmd (f : Nat) : Dec enc Tryd.prog W cmdD csz 98 f := by
  induction f with
  | zero => exact Dec.zero
  | succ f ih =>
    have hk : Dec enc Tryd.prog W (fun l : List Cmd => [.slc 12 (l.map cmdD)]) (fun l => (l.map csz).sum + 1) 22 f := by
      cases f with
      | zero => exact Dec.zero
      | succ f => exact Dec.slc (ih.le (by omega)) Tryd.underlying22 (by kernel_rfl) (fun _ => rfl) (by decide)
    have hi : Dec enc Tryd.prog W (fun n : Int => [.int .i64 n]) (fun _ => 1) 3 f := Dec.int Tryd.underlying3
    have hs := dec_strs (enc := enc) (W := W) f
    exact (Dec.struct Tryd.underlying98 (by kernel_rfl) (.cons (k := 1) hi (by kernel_rfl) rfl (.cons (k := 1) hs (by kernel_rfl) rfl (.cons (k := 8) (dec_tst f) (by kernel_rfl) rfl (.cons (k := 1) hk (by kernel_rfl) rfl (.cons (k := 1) hk (by kernel_rfl) rfl .nil)))))).map
        (fun p => Cmd.mk p.1 p.2.1 p.2.2.1 p.2.2.2.1 p.2.2.2.2.1) (fun p => by simp [cmdD, thnD_eq, elsD_eq, Cmd.kind, Cmd.texts, Cmd.test, Cmd.thn, Cmd.els]) (fun p => by rw [csz, cszL_eq, cszL_eq]; omega)
theorem dec_cmds (f : Nat) : Dec enc Tryd.prog W (fun l : List Cmd => [.slc 12 (l.map cmdD)]) cszL 22 f := by
  cases f with
  | zero => exact Dec.zero
  | succ f => exact (Dec.slc (dec_cmd f) Tryd.underlying22 (by kernel_rfl) (fun _ => rfl) (by decide)).map id (fun _ => rfl) (fun l => by show cszL l ≤ _; rw [cszL_eq]; omega)
/-- one argument of one cell -/
theorem cells_one {v : Value} {d : D} {F : Frz} (h : VDs F [d] v.cells.toList) (hv : v.oneCell' = true) : VD F d v := by
  obtain ⟨u, h1, h2⟩ := h.2 0 d rfl
  have : v.cells.toList = [v] := by cases v <;> first | rfl | (simp [Value.oneCell'] at hv)
  rw [this] at h1
  injection h1 with h1
  rw [h1]; exact h2
end
end Go.Proofs.YtnoboapafndnlaaDoor

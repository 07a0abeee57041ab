/- Data of the program: addresses, fields, tests, commands, as the logic sees them. -/
import Derived.Test.YtnoboapafndnlaaDoorAvS
namespace Go.Proofs.YtnoboapafndnlaaDoor
set_option linter.unusedSimpArgs false
set_option linter.unusedVariables false
abbrev Str := List UInt8
inductive Tst where
  | mk (kind mat part : Int) (names keys : List Str) (over : Bool) (limit : Int) (kids : List Tst)
  deriving Inhabited
def Tst.kind : Tst → Int | .mk k _ _ _ _ _ _ _ => k
def Tst.mat : Tst → Int | .mk _ k _ _ _ _ _ _ => k
def Tst.part : Tst → Int | .mk _ _ k _ _ _ _ _ => k
def Tst.names : Tst → List Str | .mk _ _ _ k _ _ _ _ => k
def Tst.keys : Tst → List Str | .mk _ _ _ _ k _ _ _ => k
def Tst.over : Tst → Bool | .mk _ _ _ _ _ k _ _ => k
def Tst.limit : Tst → Int | .mk _ _ _ _ _ _ k _ => k
def Tst.kids : Tst → List Tst | .mk _ _ _ _ _ _ _ k => k
mutual
def kidsD : Tst → List (List D)
  | .mk _ _ _ _ _ _ _ kids => kidsL kids
def kidsL : List Tst → List (List D)
  | [] => []
  | t :: l => [.int .i64 t.kind, .int .i64 t.mat, .int .i64 t.part, .slc 1 (t.names.map strD), .slc 1 (t.keys.map strD), .bool t.over, .int .i64 t.limit, .slc 8 (kidsD t)] :: kidsL l
end
/-- the cells of a test -/
def tstD (t : Tst) : List D := [.int .i64 t.kind, .int .i64 t.mat, .int .i64 t.part, .slc 1 (t.names.map strD), .slc 1 (t.keys.map strD), .bool t.over, .int .i64 t.limit, .slc 8 (kidsD t)]
def tstA (t : Tst) : List AV := [.d (.int .i64 t.kind), .d (.int .i64 t.mat), .d (.int .i64 t.part), .d (.slc 1 (t.names.map strD)), .d (.slc 1 (t.keys.map strD)), .d (.bool t.over), .d (.int .i64 t.limit), .d (.slc 8 (kidsD t))]
theorem kidsL_eq : ∀ l : List Tst, kidsL l = l.map tstD
  | [] => rfl
  | t :: l => by
    show _ :: kidsL l = tstD t :: l.map tstD
    rw [kidsL_eq l]
    rfl
theorem kidsD_eq (t : Tst) : kidsD t = t.kids.map tstD := by
  cases t
  exact kidsL_eq _
@[go_sem] theorem kidsD_len (t : Tst) : (kidsD t).length = t.kids.length := by rw [kidsD_eq, List.length_map]
theorem kidsD_get (t : Tst) (i : Nat) (d : List D) (h : i < t.kids.length) : (kidsD t).getD i d = tstD (t.kids[i]'h) := by rw [kidsD_eq]; exact map_getD tstD _ _ _ h
theorem kidsD_snoc (t : Tst) (k : Nat) (h : k < t.kids.length) : (kidsD t).take k ++ [tstD (t.kids[k]'h)] = (kidsD t).take (k + 1) := by
  rw [List.take_succ_eq_append_getElem (by rw [kidsD_len]; exact h)]
  simp only [kidsD_eq, List.getElem_map]
theorem map_snoc {α β : Type} (f : α → β) (l : List α) (k : Nat) (h : k < l.length) : (l.map f).take k ++ [f (l[k]'h)] = (l.map f).take (k + 1) := by
  rw [List.take_succ_eq_append_getElem (by rw [List.length_map]; exact h)]
  simp only [List.getElem_map]
theorem map_all {α β : Type} (f : α → β) (l : List α) (k : Nat) (h : l.length ≤ k) : (l.map f).take k = l.map f := List.take_of_length_le (by rw [List.length_map]; exact h)
theorem kidsD_all (t : Tst) (k : Nat) (h : t.kids.length ≤ k) : (kidsD t).take k = kidsD t := List.take_of_length_le (by rw [kidsD_len]; exact h)
mutual
def Tst.rank : Tst → Nat
  | .mk _ _ _ _ _ _ _ kids => Tst.rankL kids + 1
def Tst.rankL : List Tst → Nat
  | [] => 0
  | t :: l => t.rank + Tst.rankL l
end
theorem Tst.rank_mem {x : Tst} : ∀ {l : List Tst}, x ∈ l → x.rank ≤ Tst.rankL l
  | y :: l, h => by
    unfold Tst.rankL
    rcases List.mem_cons.1 h with rfl | h
    · omega
    · have := Tst.rank_mem h; omega
theorem Tst.rank_kid {t x : Tst} (h : x ∈ t.kids) : x.rank < t.rank := by
  cases t
  have := Tst.rank_mem h
  show x.rank < Tst.rankL _ + 1
  exact Nat.lt_succ_of_le this
theorem Tst.ind {p : Tst → Prop} (h : ∀ t, (∀ x ∈ t.kids, p x) → p t) (t : Tst) : p t := by
  have : ∀ n t, Tst.rank t < n → p t := fun n => by
    induction n with
    | zero => intro t ht; omega
    | succ n ih => exact fun t ht => h t fun x hx => ih x (by have := Tst.rank_kid hx; omega)
  exact this _ t (Nat.lt_succ_self _)
/-- lists that may be copied -/
inductive Tst.Ok : Tst → Prop where
  | mk {t : Tst} (h1 : t.names.length * 16 ≤ 140737488355328) (h2 : t.keys.length * 16 ≤ 140737488355328) (h3 : t.kids.length * 112 ≤ 140737488355328) (h4 : ∀ x ∈ t.kids, Tst.Ok x) : Tst.Ok t
theorem Tst.Ok.inv {t : Tst} (h : t.Ok) : t.names.length * 16 ≤ 140737488355328 ∧ t.keys.length * 16 ≤ 140737488355328 ∧ t.kids.length * 112 ≤ 140737488355328 ∧ ∀ x ∈ t.kids, Tst.Ok x := by
  cases h; exact ⟨by assumption, by assumption, by assumption, by assumption⟩
inductive Cmd where
  | mk (kind : Int) (texts : List Str) (test : Tst) (thn els : List Cmd)
def Cmd.kind : Cmd → Int | .mk k _ _ _ _ => k
def Cmd.texts : Cmd → List Str | .mk _ k _ _ _ => k
def Cmd.test : Cmd → Tst | .mk _ _ k _ _ => k
def Cmd.thn : Cmd → List Cmd | .mk _ _ _ k _ => k
def Cmd.els : Cmd → List Cmd | .mk _ _ _ _ k => k
mutual
def thnD : Cmd → List (List D)
  | .mk _ _ _ l _ => cmdsL l
def elsD : Cmd → List (List D)
  | .mk _ _ _ _ l => cmdsL l
def cmdsL : List Cmd → List (List D)
  | [] => []
  | c :: l => (.int .i64 c.kind :: .slc 1 (c.texts.map strD) :: (tstD c.test ++ [.slc 12 (thnD c), .slc 12 (elsD c)])) :: cmdsL l
end
def cmdD (c : Cmd) : List D := .int .i64 c.kind :: .slc 1 (c.texts.map strD) :: (tstD c.test ++ [.slc 12 (thnD c), .slc 12 (elsD c)])
def cmdA (c : Cmd) : List AV := .d (.int .i64 c.kind) :: .d (.slc 1 (c.texts.map strD)) :: (tstA c.test ++ [.d (.slc 12 (thnD c)), .d (.slc 12 (elsD c))])
theorem cmdsL_eq : ∀ l : List Cmd, cmdsL l = l.map cmdD
  | [] => rfl
  | t :: l => by
    show _ :: cmdsL l = cmdD t :: l.map cmdD
    rw [cmdsL_eq l]
    rfl
theorem thnD_eq (c : Cmd) : thnD c = c.thn.map cmdD := by cases c; exact cmdsL_eq _
theorem elsD_eq (c : Cmd) : elsD c = c.els.map cmdD := by cases c; exact cmdsL_eq _
@[go_sem] theorem thnD_len (c : Cmd) : (thnD c).length = c.thn.length := by rw [thnD_eq, List.length_map]
@[go_sem] theorem elsD_len (c : Cmd) : (elsD c).length = c.els.length := by rw [elsD_eq, List.length_map]
theorem elsD_get (c : Cmd) (i : Nat) (d : List D) (h : i < c.els.length) : (elsD c).getD i d = cmdD (c.els[i]'h) := by rw [elsD_eq]; exact map_getD cmdD _ _ _ h
mutual
def Cmd.rank : Cmd → Nat
  | .mk _ _ _ a b => Cmd.rankL a + Cmd.rankL b + 1
def Cmd.rankL : List Cmd → Nat
  | [] => 0
  | t :: l => t.rank + Cmd.rankL l + 1
end
theorem Cmd.rank_mem {x : Cmd} : ∀ {l : List Cmd}, x ∈ l → x.rank < Cmd.rankL l
  | y :: l, h => by
    unfold Cmd.rankL
    rcases List.mem_cons.1 h with rfl | h
    · omega
    · have := Cmd.rank_mem h; omega
theorem Cmd.rank_eq (c : Cmd) : c.rank = Cmd.rankL c.thn + Cmd.rankL c.els + 1 := by cases c; simp [Cmd.rank, Cmd.thn, Cmd.els]
theorem Cmd.ind {p : Cmd → Prop} (h : ∀ c, (∀ x ∈ c.thn, p x) → (∀ x ∈ c.els, p x) → p c) (c : Cmd) : p c := by
  have : ∀ n c, Cmd.rank c < n → p c := fun n => by
    induction n with
    | zero => intro t ht; omega
    | succ n ih => exact fun t ht => h t (fun x hx => ih x (by have := Cmd.rank_mem hx; rw [Cmd.rank_eq] at ht; omega)) fun x hx => ih x (by have := Cmd.rank_mem hx; rw [Cmd.rank_eq] at ht; omega)
  exact this _ c (Nat.lt_succ_self _)
inductive Cmd.Ok : Cmd → Prop where
  | mk {c : Cmd} (h1 : c.texts.length * 16 ≤ 140737488355328) (h2 : c.test.Ok) (h3 : c.thn.length * 208 ≤ 140737488355328) (h4 : c.els.length * 208 ≤ 140737488355328) (h5 : ∀ x ∈ c.thn, Cmd.Ok x) (h6 : ∀ x ∈ c.els, Cmd.Ok x) : Cmd.Ok c
theorem Cmd.Ok.inv {c : Cmd} (h : c.Ok) : c.texts.length * 16 ≤ 140737488355328 ∧ c.test.Ok ∧ c.thn.length * 208 ≤ 140737488355328 ∧ c.els.length * 208 ≤ 140737488355328 ∧ (∀ x ∈ c.thn, Cmd.Ok x) ∧ ∀ x ∈ c.els, Cmd.Ok x := by
  cases h; exact ⟨by assumption, by assumption, by assumption, by assumption, by assumption, by assumption⟩
attribute [go_sem] tstD tstA cmdD cmdA
end Go.Proofs.YtnoboapafndnlaaDoor

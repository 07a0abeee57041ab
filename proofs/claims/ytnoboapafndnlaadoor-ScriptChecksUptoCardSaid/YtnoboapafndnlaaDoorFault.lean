/- What is amiss with a test, a command, a list: as plain functions. -/
import Derived.Test.YtnoboapafndnlaaDoorAvData
namespace Go.Proofs.YtnoboapafndnlaaDoor
set_option linter.unusedSimpArgs false
set_option linter.unusedVariables false
def inB (n lo hi : Int) : Bool := decide (lo ≤ n) && decide (n ≤ hi)
def bareB (t : Tst) (n k m p u l : Bool) : Bool := (n || decide (t.names.length = 0)) && (k || decide (t.keys.length = 0)) && (m || decide (t.mat = 0)) && (p || decide (t.part = 0)) && (u || (!t.over && decide (t.limit = 0))) && (l || decide (t.kids.length = 0))
def okS (t : Tst) : Bool :=
  bareB t (inB t.kind 6 8 || decide (t.kind = 9)) (inB t.kind 6 8) (inB t.kind 6 8) (inB t.kind 6 8 && !decide (t.kind = 6)) (decide (t.kind = 10)) (inB t.kind 3 5) &&
  (!(inB t.kind 6 8 || decide (t.kind = 9)) || decide (0 < t.names.length)) &&
  (!inB t.kind 6 8 || (decide (0 < t.keys.length) && inB t.mat 1 3 && (decide (t.kind = 6) || inB t.part 1 3))) &&
  (!decide (t.kind = 10) || inB t.limit 0 2147483647) && (!inB t.kind 3 5 || (decide (0 < t.kids.length) && (!decide (t.kind = 3) || decide (t.kids.length = 1))))
mutual
def tF : Tst → Int → Int
  | .mk a b c e f g h kids, d => if inB a 1 10 = false then 2 else if 6 < d then 1 else if okS (.mk a b c e f g h kids) = false then 3 else tFL kids (d + 1)
def tFL : List Tst → Int → Int
  | [], _ => 0
  | x :: l, d => if tF x d = 0 then tFL l d else tF x d
end
theorem tF_eq (t : Tst) (d : Int) : tF t d = if inB t.kind 1 10 = false then 2 else if 6 < d then 1 else if okS t = false then 3 else tFL t.kids (d + 1) := by
  cases t; rw [tF]; rfl
theorem tFL_drop (l : List Tst) (d : Int) (k : Nat) (h : k < l.length) : tFL (l.drop k) d = if tF (l[k]'h) d = 0 then tFL (l.drop (k + 1)) d else tF (l[k]'h) d := by
  rw [List.drop_eq_getElem_cons h, tFL]
theorem tF_kind (t : Tst) (d : Int) (h : inB t.kind 1 10 = false) : tF t d = 2 := by rw [tF_eq, if_pos h]
theorem tF_deep (t : Tst) (d : Int) (h : inB t.kind 1 10 = true) (h2 : 6 < d) : tF t d = 1 := by rw [tF_eq, if_neg (by rw [h]; simp), if_pos h2]
theorem tF_shape (t : Tst) (d : Int) (h : inB t.kind 1 10 = true) (h2 : d ≤ 6) (h3 : okS t = false) : tF t d = 3 := by rw [tF_eq, if_neg (by rw [h]; simp), if_neg (by omega), if_pos h3]
theorem tF_kids (t : Tst) (d : Int) (h : inB t.kind 1 10 = true) (h2 : d ≤ 6) (h3 : okS t = true) : tF t d = tFL t.kids (d + 1) := by rw [tF_eq, if_neg (by rw [h]; simp), if_neg (by omega), if_neg (by rw [h3]; simp)]
def elsifB (c : Cmd) : Bool := decide (c.els.length = 1) && decide ((c.els.map Cmd.kind).headD 0 = 2)
def okC (c : Cmd) : Bool :=
  decide (c.test.kind = 0) && bareB c.test false false false false false false && decide (c.thn.length = 0) && decide (c.els.length = 0) &&
  (if c.kind = 1 ∨ c.kind = 8 ∨ c.kind = 9 then decide (0 < c.texts.length) else if inB c.kind 5 7 then decide (c.texts.length = 1) else decide (c.texts.length = 0))
end Go.Proofs.YtnoboapafndnlaaDoor

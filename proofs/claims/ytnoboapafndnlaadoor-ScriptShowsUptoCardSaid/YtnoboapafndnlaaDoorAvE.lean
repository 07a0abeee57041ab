/- Abstract values: operations that leave the abstract heap alone. -/
import Derived.Test.YtnoboapafndnlaaDoorAvD
import Derived.Laws.Strings
import Derived.IntWalk
namespace Go.Proofs.YtnoboapafndnlaaDoor
open Go.RowKit
set_option linter.unusedSimpArgs false
set_option linter.unusedVariables false

abbrev PV := Prop × AV
def koP : PV := (False, .any)
/-- numbers within their kind -/
def inR : IntKind → Int → Prop
  | .i64, n => -9223372036854775808 ≤ n ∧ n ≤ 9223372036854775807
  | .u8, n => 0 ≤ n ∧ n ≤ 255
  | .i32, n => -2147483648 ≤ n ∧ n ≤ 2147483647
  | .u32, n => 0 ≤ n ∧ n ≤ 4294967295
  | k, n => k.wrap n = n
theorem inR_wrap {k : IntKind} {n : Int} (h : inR k n) : k.wrap n = n := by
  cases k <;> simp only [inR] at h <;> first | exact h | exact IntWalk.i64_in n h | exact IntWalk.u8_in n h | exact IntWalk.i32_in n h | exact IntWalk.u32_in n h
def arithP (op : BinOp) (k : IntKind) (a b : Int) : PV :=
  match op with
  | .add => (inR k (a + b), .d (.int k (a + b)))
  | .sub => (inR k (a - b), .d (.int k (a - b)))
  | .mul => (inR k (a * b), .d (.int k (a * b)))
  | .quo => (b ≠ 0 ∧ inR k (a.tdiv b), .d (.int k (a.tdiv b)))
  | .rem => (b ≠ 0, .d (.int k (a.tmod b)))
  | .and => (True, .d (.int k (k.wrap (BitVec.ofInt k.bits a &&& BitVec.ofInt k.bits b).toNat)))
  | .or => (True, .d (.int k (k.wrap (BitVec.ofInt k.bits a ||| BitVec.ofInt k.bits b).toNat)))
  | .eql => (True, .d (.bool (decide (a = b))))
  | .neq => (True, .d (.bool (!decide (a = b))))
  | .lss => (True, .d (.bool (decide (a < b))))
  | .leq => (True, .d (.bool (decide (a ≤ b))))
  | .gtr => (True, .d (.bool (decide (b < a))))
  | .geq => (True, .d (.bool (decide (b ≤ a))))
  | _ => koP
def shiftP (op : BinOp) (k : IntKind) (a b : Int) : PV :=
  match op with
  | .shl => (0 ≤ b ∧ inR k (a * 2 ^ (min b.toNat k.bits)), .d (.int k (a * 2 ^ (min b.toNat k.bits))))
  | .shr => (0 ≤ b, .d (.int k (a.fdiv (2 ^ (min b.toNat k.bits)))))
  | _ => koP
def isB (P : Program) (t : TypeId) : Bool := match P.underlying t with | some .bool => true | _ => false
def isStr (P : Program) (t : TypeId) : Bool := match P.underlying t with | some .string => true | _ => false
def isIf (P : Program) (t : TypeId) : Bool := match P.underlying t with | some (.interface _) => true | _ => false
def binP (P : Program) (op : BinOp) (t : TypeId) : AV → AV → PV
  | .d (.int k a), .d (.int k' b) => match op with
    | .shl => shiftP .shl k a b
    | .shr => shiftP .shr k a b
    | op => if k = k' then arithP op k a b else koP
  | .d (.bool a), .d (.bool b) => match op with
    | .eql => (isB P t = true, .d (.bool (a == b)))
    | .neq => (isB P t = true, .d (.bool (!(a == b))))
    | _ => koP
  | .d (.str a), .d (.str b) => match op with
    | .add => (a.length + b.length ≤ 9223372036854775807, .d (.str (a ++ b)))
    | .eql => (True, .d (.bool (decide (a = b))))
    | .neq => (True, .d (.bool (!decide (a = b))))
    | _ => koP
  | _, _ => koP
def pickB : AV → Bool × Bool
  | .d (.bool v) => (true, v)
  | .cnd g (.d (.bool v)) => (g, v)
  | _ => (false, false)
def pickP (c a b : AV) : PV :=
  ((pickB c).1 = true ∧ ((pickB c).2 = true → (pickB a).1 = true) ∧ ((pickB c).2 = false → (pickB b).1 = true), .d (.bool (bif (pickB c).2 then (pickB a).2 else (pickB b).2)))
def loadP (P : Program) (t : TypeId) (a : AV) (h : AH) : PV :=
  match a, tyI P t with
  | .ptr b k i o, some (r, n) => match ldA h.objs b k i o n with
    | some cs => (True, ofCellsA r cs)
    | none => koP
  | .elt _ rows i o, some (r, n) => (o + n ≤ (rows.getD i []).length, ofCellsA r ((((rows.getD i []).drop o).take n).map .d))
  | _, _ => koP
def nilP : AV → PV
  | .ptr b k i o => (True, .ptr b k i o)
  | .elt k rows i o => (True, .elt k rows i o)
  | .fn f c => (True, .fn f c)
  | _ => koP
def unP (op : UnOp) : AV → PV
  | .d (.bool b) => match op with
    | .not => (True, .d (.bool (!b)))
    | _ => koP
  | .d (.int k n) => match op with
    | .neg => (inR k (0 - n), .d (.int k (0 - n)))
    | _ => koP
  | _ => koP
def fdI (P : Program) (t : TypeId) (f : Nat) : Option (Nat × Nat × Bool) :=
  match P.underlying t with
  | some (.struct fs) => match fs[f]? with
    | some fd => match tyI P fd.type with
      | some (r, n) => if n = 0 then none else some (fd.offset, n, r)
      | none => none
    | none => none
  | _ => none
def slI (P : Program) (t : TypeId) : Option (TypeId × Nat × Nat) :=
  match P.underlying t with
  | some (.slice e) => match P.info? e with
    | some i => if (i.zero.map fun z => z.cells.size) = some i.size ∧ 0 < i.size then some (e, i.size, i.bytes) else none
    | none => none
  | _ => none
def arI (P : Program) (t : TypeId) : Option (Nat × Nat × Bool) :=
  match P.underlying t with
  | some (.array n e) => match tyI P e with
    | some (r, s) => some (n, s, r)
    | none => none
  | _ => none
def fieldAddrP (P : Program) (t : TypeId) (a : AV) (f : Nat) : PV :=
  match a, fdI P t f with
  | .ptr b k i o, some (off, _, _) => (True, .ptr b k i (o + off))
  | .elt k rows i o, some (off, _, _) => (True, .elt k rows i (o + off))
  | _, _ => koP
def fieldP (P : Program) (t : TypeId) (a : AV) (f : Nat) : PV :=
  match a, fdI P t f with
  | .agg l, some (off, n, r) => (off + n ≤ l.length, ofCellsA r ((l.drop off).take n))
  | _, _ => koP
def extractP (a : AV) (i : Nat) : PV :=
  match a with
  | .tup l => (i < l.length, l.getD i .any)
  | _ => koP
def indexAddrP (P : Program) (t : TypeId) (a i : AV) : PV :=
  match a, i with
  | .d (.slc k rows), .d (.int _ j) => match slI P t with
    | some (_, s, _) => (s = k ∧ 0 ≤ j ∧ j < rows.length, .elt k rows j.toNat 0)
    | none => koP
  | .own _ k rows, .d (.int _ j) => match slI P t with
    | some (_, s, _) => (s = k ∧ 0 ≤ j ∧ j < rows.length, .elt k rows j.toNat 0)
    | none => koP
  | .arr b k n _, .d (.int _ j) => match slI P t with
    | some (_, s, _) => (s = k ∧ 0 ≤ j ∧ j < n, .ptr b k j.toNat 0)
    | none => koP
  | .ptr b k i o, .d (.int _ j) => match arI P t with
    | some (n, s, _) => (0 ≤ j ∧ j < n, .ptr b k i (o + j.toNat * s))
    | none => koP
  | .elt k rows i o, .d (.int _ j) => match arI P t with
    | some (n, s, _) => (0 ≤ j ∧ j < n, .elt k rows i (o + j.toNat * s))
    | none => koP
  | _, _ => koP
def indexP (P : Program) (t : TypeId) (a i : AV) : PV :=
  match a, i with
  | .d (.str s), .d (.int _ j) => (isStr P t = true ∧ 0 ≤ j ∧ j < s.length, .d (.int .u8 (s.getD j.toNat 0).toNat))
  | .agg l, .d (.int _ j) => match arI P t with
    | some (n, s, r) => (0 ≤ j ∧ j < n ∧ j.toNat * s + s ≤ l.length, ofCellsA r ((l.drop (j.toNat * s)).take s))
    | none => koP
  | _, _ => koP
def lenP (P : Program) (t : TypeId) (a : AV) : PV :=
  match a with
  | .d (.str s) => (isStr P t = true, .d (.int .i64 s.length))
  | .d (.slc _ rows) => ((slI P t).isSome = true, .d (.int .i64 rows.length))
  | .own _ _ rows => ((slI P t).isSome = true, .d (.int .i64 rows.length))
  | .nils => ((slI P t).isSome = true, .d (.int .i64 0))
  | .arr _ _ n _ => ((slI P t).isSome = true, .d (.int .i64 n))
  | _ => koP
def minP (a b : AV) : PV :=
  match a, b with
  | .d (.int k x), .d (.int k' y) => (k = k', .d (.int k (if y < x then y else x)))
  | _, _ => koP

/-- an operation ran well -/
def PR (T : Tbl) (G : Gh) (h : AH) (V : AV) (r : Result Next) : Prop := ∃ G' v w', r = .ok (.value v) w' ∧ Gle G G' ∧ Sim T G' h w' ∧ VR G' V v
section
variable {P : Program} {T : Tbl} {G : Gh} {h : AH} {w : World} {a b c : AV} {u v x : Value}
theorem PR.pure (S : Sim T G h w) (hv : VR G a v) : PR T G h a (.ok (.value v) w) := ⟨G, v, w, rfl, Gle.refl G, S, hv⟩
theorem VR.int_inv {k : IntKind} {n : Int} (h : VR G (.d (.int k n)) v) : v = .int k n := by cases h with | d h => exact h.int_inv
theorem VR.bool_inv {b : Bool} (h : VR G (.d (.bool b)) v) : v = .bool b := by cases h with | d h => exact h.bool_inv
theorem VR.str_inv {s : List UInt8} (h : VR G (.d (.str s)) v) : ∃ t : ByteArray, v = .string t ∧ t.data.toList = s ∧ t.size ≤ maxLen := by cases h with | d h => exact h.str_inv
theorem VR.int (k : IntKind) (n : Int) : VR G (.d (.int k n)) (.int k n) := .d (.int k n)
theorem VR.bool (b : Bool) : VR G (.d (.bool b)) (.bool b) := .d (.bool b)
theorem VR.str (t : ByteArray) (s : List UInt8) (e : t.data.toList = s) (h : s.length ≤ maxLen) : VR G (.d (.str s)) (.string t) := by
  subst e
  exact .d (.str t (by rw [Array.length_toList] at h; exact h))
theorem run_arith {op : BinOp} {k : IntKind} {n m : Int} (t : TypeId) (hs : (arithP op k n m).1) : ∃ v, (binOp op t (.int k n) (.int k m)).run P w = .ok v w ∧ VR G (arithP op k n m).2 v := by
  have cmp : ∀ (o : BinOp) (r : Bool), (binOp o t (.int k n) (.int k m)).run P w = .ok (.bool r) w → ∀ r', r = r' → ∃ v, (binOp o t (.int k n) (.int k m)).run P w = .ok v w ∧ VR G (.d (.bool r')) v := fun o r h r' e => ⟨_, h, by rw [e]; exact VR.bool _⟩
  cases op with
  | add => exact ⟨.int k (n + m), by simp only [arithP] at hs; simp only [binOp, ne_eq, not_true_eq_false, if_false, Op.intArith, inR_wrap hs]; rfl, VR.int _ _⟩
  | sub => exact ⟨.int k (n - m), by simp only [arithP] at hs; simp only [binOp, ne_eq, not_true_eq_false, if_false, Op.intArith, inR_wrap hs]; rfl, VR.int _ _⟩
  | mul => exact ⟨.int k (n * m), by simp only [arithP] at hs; simp only [binOp, ne_eq, not_true_eq_false, if_false, Op.intArith, inR_wrap hs]; rfl, VR.int _ _⟩
  | quo => exact ⟨.int k (n.tdiv m), by simp only [arithP] at hs; simp only [binOp, ne_eq, not_true_eq_false, if_false, Op.intDiv, inR_wrap hs.2]; rw [if_neg hs.1]; rfl, VR.int _ _⟩
  | rem => exact ⟨.int k (n.tmod m), by simp only [arithP] at hs; simp only [binOp, ne_eq, not_true_eq_false, if_false, Op.intDiv]; rw [if_neg hs]; rfl, VR.int _ _⟩
  | and => exact ⟨_, by simp only [binOp, ne_eq, not_true_eq_false, if_false, Op.intBits]; rfl, VR.int _ _⟩
  | or => exact ⟨_, by simp only [binOp, ne_eq, not_true_eq_false, if_false, Op.intBits]; rfl, VR.int _ _⟩
  | eql => exact cmp .eql (n == m) (by simp only [binOp, ne_eq, not_true_eq_false, if_false, Op.intCmp]; rfl) _ (Bool.eq_iff_iff.2 (by simp))
  | neq => exact cmp .neq (n != m) (by simp only [binOp, ne_eq, not_true_eq_false, if_false, Op.intCmp]; rfl) _ (Bool.eq_iff_iff.2 (by simp))
  | lss => exact cmp .lss (decide (n < m)) (by simp only [binOp, ne_eq, not_true_eq_false, if_false, Op.intCmp]; rfl) _ rfl
  | leq => exact cmp .leq (decide (n ≤ m)) (by simp only [binOp, ne_eq, not_true_eq_false, if_false, Op.intCmp]; rfl) _ rfl
  | gtr => exact cmp .gtr (decide (n > m)) (by simp only [binOp, ne_eq, not_true_eq_false, if_false, Op.intCmp]; rfl) _ rfl
  | geq => exact cmp .geq (decide (n ≥ m)) (by simp only [binOp, ne_eq, not_true_eq_false, if_false, Op.intCmp]; rfl) _ rfl
  | _ => exact hs.elim
theorem run_equal_bool {t : TypeId} (hu : P.underlying t = some .bool) (a b : Bool) : (Op.equal t (.bool a) (.bool b)).run P w = .ok (a == b) w := by
  have : ∀ d, (Op.equalIn (d + 1) t (.bool a) (.bool b)).run P w = .ok (a == b) w := fun d => by
    simp only [Op.equalIn, Sem.run_bind, run_underlying hu, Result.andThen_ok]
    rfl
  exact this 9999
theorem isB_inv {t : TypeId} (e : isB P t = true) : P.underlying t = some .bool := by
  unfold isB at e
  split at e
  · assumption
  · cases e
theorem isStr_inv {t : TypeId} (e : isStr P t = true) : P.underlying t = some .string := by
  unfold isStr at e
  split at e
  · assumption
  · cases e
theorem size_data (s : ByteArray) : s.data.toList.length = s.size := by rw [Array.length_toList]; rfl
theorem binP_ok (op : BinOp) (t : TypeId) (x y : Operand) (S : Sim T G h w) (hs : (binP P op t a b).1) (ha : VR G a u) (hb : VR G b v) :
    PR T G h (binP P op t a b).2 (((do eqGuard op t x y u v; binOp op t u v : Sem Value) >>= fun z => pure (Next.value z)).run P w) := by
  have key : ∀ {r : Value}, eqGuard op t x y u v = (pure () : Sem Unit) → (binOp op t u v).run P w = .ok r w → VR G (binP P op t a b).2 r → PR T G h (binP P op t a b).2 (((do eqGuard op t x y u v; binOp op t u v : Sem Value) >>= fun z => pure (Next.value z)).run P w) := fun hg hr hv => by
    refine ⟨G, _, w, ?_, Gle.refl G, S, hv⟩
    rw [hg, pure_bind, Sem.run_bind, hr]
    rfl
  have hgi : ∀ (k k' : IntKind) (n m : Int), eqGuard op t x y (.int k n) (.int k' m) = (pure () : Sem Unit) := fun k k' n m => by unfold eqGuard; split <;> rfl
  have hgb : ∀ (n m : Bool), eqGuard op t x y (.bool n) (.bool m) = (pure () : Sem Unit) := fun n m => by unfold eqGuard; split <;> rfl
  have hgs : ∀ (n m : ByteArray), eqGuard op t x y (.string n) (.string m) = (pure () : Sem Unit) := fun n m => by unfold eqGuard; split <;> rfl
  unfold binP at hs
  split at hs <;> try exact hs.elim
  · rename_i k n k' m
    have hu := ha.int_inv
    have hv := hb.int_inv
    subst hu hv
    split at hs
    · simp only [shiftP] at hs
      obtain ⟨h0, h1⟩ := hs
      refine key (r := .int k (n * 2 ^ (min m.toNat k.bits))) (hgi ..) ?_ (VR.int _ _)
      simp only [binOp, Op.shift]
      rw [if_neg (by omega)]
      simp only [inR_wrap h1]
      rfl
    · simp only [shiftP] at hs
      refine key (r := .int k (n.fdiv (2 ^ (min m.toNat k.bits)))) (hgi ..) ?_ (VR.int _ _)
      simp only [binOp, Op.shift]
      rw [if_neg (by omega)]
      rfl
    · rename_i hne1 hne2
      split at hs
      · rename_i hk
        subst hk
        obtain ⟨r, h1, h2⟩ := run_arith (P := P) (w := w) (G := G) t hs
        refine key (r := r) (hgi ..) h1 ?_
        have : (binP P op t (.d (.int k n)) (.d (.int k m))).2 = (arithP op k n m).2 := by
          cases op <;> first | exact absurd rfl hne1 | exact absurd rfl hne2 | (simp only [binP, if_true])
        rw [this]
        exact h2
      · exact hs.elim
  · rename_i n m
    have hu := ha.bool_inv
    have hv := hb.bool_inv
    subst hu hv
    split at hs <;> try exact hs.elim
    · refine key (r := .bool (n == m)) (hgb ..) ?_ (VR.bool _)
      have e : binOp .eql t (.bool n) (.bool m) = (do pure (.bool (← Op.equal t (.bool n) (.bool m))) : Sem Value) := rfl
      rw [e, Sem.run_bind, run_equal_bool (isB_inv hs)]
      rfl
    · refine key (r := .bool (!(n == m))) (hgb ..) ?_ (VR.bool _)
      have e : binOp .neq t (.bool n) (.bool m) = (do pure (.bool (!(← Op.equal t (.bool n) (.bool m)))) : Sem Value) := rfl
      rw [e, Sem.run_bind, run_equal_bool (isB_inv hs)]
      rfl
  · rename_i l m
    obtain ⟨s, rfl, hs1, hs2⟩ := ha.str_inv
    obtain ⟨s', rfl, hs3, hs4⟩ := hb.str_inv
    subst hs1 hs3
    split at hs <;> try exact hs.elim
    · refine key (r := .string (s ++ s')) (hgs ..) ?_ ?_
      · have : ¬ ((s.size + s'.size : Nat) : Int) > IntKind.i64.max := by
          have e1 := size_data s
          have e2 := size_data s'
          have e3 : IntKind.i64.max = 9223372036854775807 := by decide
          dsimp only at hs
          omega
        have e : binOp .add t (.string s) (.string s') = Op.stringOp .add s s' := rfl
        rw [e]
        simp only [Op.stringOp]
        rw [if_neg this]
        rfl
      · refine VR.str _ _ (by simp) ?_
        rw [List.length_append]
        exact hs
    · refine key (r := .bool (s.data.toList == s'.data.toList)) (hgs ..) ?_ ?_
      · have e : binOp .eql t (.string s) (.string s') = Op.stringOp .eql s s' := rfl
        rw [e]
        simp only [Op.stringOp, ByteArray.toList_eq]
        rfl
      · rw [show (s.data.toList == s'.data.toList) = decide (s.data.toList = s'.data.toList) from Bool.eq_iff_iff.2 (by simp)]
        exact VR.bool _
    · refine key (r := .bool (!(s.data.toList == s'.data.toList))) (hgs ..) ?_ ?_
      · have e : binOp .neq t (.string s) (.string s') = Op.stringOp .neq s s' := rfl
        rw [e]
        simp only [Op.stringOp, ByteArray.toList_eq]
        rfl
      · rw [show (s.data.toList == s'.data.toList) = decide (s.data.toList = s'.data.toList) from Bool.eq_iff_iff.2 (by simp)]
        exact VR.bool _
theorem pickB_ok (h1 : (pickB a).1 = true) (hv : VR G a v) : v = .bool (pickB a).2 := by
  unfold pickB at h1 ⊢
  split at h1
  · exact hv.bool_inv
  · dsimp only at h1
    subst h1
    cases hv with
    | cndT h => exact h.bool_inv
  · cases h1
theorem pickP_ok (S : Sim T G h w) (hs : (pickP a b c).1) (ha : VR G a u) (hb : VR G b v) (hc : VR G c x) :
    PR T G h (pickP a b c).2 ((do pure (Next.value (if ← asBool u then v else x)) : Sem Next).run P w) := by
  obtain ⟨h1, h2, h3⟩ := hs
  rw [pickB_ok h1 ha]
  simp only [asBool, pure_bind, pickP]
  cases hq : (pickB a).2 with
  | true =>
    rw [pickB_ok (h2 hq) hb]
    exact PR.pure S (VR.bool _)
  | false =>
    rw [pickB_ok (h3 hq) hc]
    exact PR.pure S (VR.bool _)
theorem nilP_ok (S : Sim T G h w) (hs : (nilP a).1) (ha : VR G a u) {o : Oper} {ρ : Operand → Value} {y : Operand} (ho : o.op = .nilCheck y) (hy : ρ y = u) : PR T G h (nilP a).2 ((execOp ρ o).run P w) := by
  unfold execOp
  simp only [ho, hy]
  cases a <;> simp only [nilP, koP] at hs ⊢
  · cases ha; exact PR.pure S (.ptr ..)
  · have ha' := ha
    cases ha with | elt _ _ _ _ b off val r hr hf hv => exact PR.pure S ha'
  · have ha' := ha
    cases ha with | fn _ _ vs hl h => exact PR.pure S ha'
theorem unP_ok (op : UnOp) (S : Sim T G h w) (hs : (unP op a).1) (ha : VR G a u) : PR T G h (unP op a).2 ((Op.unary op u >>= fun z => pure (Next.value z)).run P w) := by
  unfold unP at hs ⊢
  split at hs <;> try exact hs.elim
  · rw [ha.bool_inv]
    split at hs <;> try exact hs.elim
    exact PR.pure S (VR.bool _)
  · rw [ha.int_inv]
    split at hs <;> try exact hs.elim
    refine ⟨G, _, w, ?_, Gle.refl G, S, VR.int _ _⟩
    simp [Op.unary, Op.intArith, inR_wrap hs]
    simpa using inR_wrap hs
theorem extractP_ok {i : Nat} (S : Sim T G h w) (hs : (extractP a i).1) (ha : VR G a u) : PR T G h (extractP a i).2 ((Instr.extract u i >>= fun z => pure (Next.value z)).run P w) := by
  unfold extractP at hs ⊢
  split at hs <;> try exact hs.elim
  rename_i l
  cases ha with
  | tup _ vs hl hc =>
    have hi : i < vs.length := by rw [hl]; exact hs
    have h1 : l[i]? = some (l[i]'hs) := List.getElem?_eq_getElem hs
    have h2 : vs[i]? = some (vs[i]'hi) := List.getElem?_eq_getElem hi
    refine ⟨G, vs[i], w, ?_, Gle.refl G, S, ?_⟩
    · simp [Instr.extract, h2]
    · simp only [List.getD, h1, Option.getD_some]
      exact hc i _ _ h1 h2
theorem fdI_inv {t f off n : Nat} {r : Bool} (e : fdI P t f = some (off, n, r)) : ∃ fs fd, P.underlying t = some (.struct fs) ∧ fs[f]? = some fd ∧ fd.offset = off ∧ tyI P fd.type = some (r, n) ∧ n ≠ 0 := by
  unfold fdI at e
  split at e
  · rename_i fs hu
    split at e
    · rename_i fd hf
      split at e
      · rename_i r' n' ht
        split at e
        · cases e
        · rename_i hn
          simp only [Option.some.injEq, Prod.mk.injEq] at e
          obtain ⟨rfl, rfl, rfl⟩ := e
          exact ⟨fs, fd, hu, hf, rfl, ht, hn⟩
      · cases e
    · cases e
  · cases e
theorem run_fieldPlace {t : TypeId} {f : Field} {n : Nat} {r : Bool} (ht : tyI P f.type = some (r, n)) (hn : n ≠ 0) (ad : Addr) : (fieldPlace ad f).run P w = .ok (ad.add f.offset) w := by
  obtain ⟨d, i, hu, hi, _, hs, _⟩ := tyI_inv ht
  simp [fieldPlace, run_sizeOf hi, hs, hn]
theorem add_at (b o n : Nat) : (⟨b, o, none⟩ : Addr).add n = ⟨b, o + n, none⟩ := Addr.add_mid b o n
theorem fieldAddrP_ok {t f : Nat} (S : Sim T G h w) (hs : (fieldAddrP P t a f).1) (ha : VR G a u) : PR T G h (fieldAddrP P t a f).2 ((Instr.fieldAt t u f >>= fun z => pure (Next.value z)).run P w) := by
  unfold fieldAddrP at hs ⊢
  split at hs <;> try exact hs.elim
  · rename_i b k i o off n r hf
    obtain ⟨fs, fd, hu, hfd, rfl, ht, hn⟩ := fdI_inv hf
    cases ha
    refine ⟨G, .pointer (some ⟨b, i * k + (o + fd.offset), none⟩), w, ?_, Gle.refl G, S, .ptr ..⟩
    simp [Instr.fieldAt, run_underlying hu, hfd, Instr.sureAddr, run_fieldPlace (w := w) (t := t) ht hn, add_at, Nat.add_assoc]
  · rename_i k rows i o off n r hf
    obtain ⟨fs, fd, hu, hfd, rfl, ht, hn⟩ := fdI_inv hf
    cases ha with
    | elt _ _ _ _ b off val r hr hf hv =>
      refine ⟨G, .pointer (some ⟨b, off + (o + fd.offset), none⟩), w, ?_, Gle.refl G, S, .elt k rows i _ b off val r hr hf hv⟩
      simp [Instr.fieldAt, run_underlying hu, hfd, Instr.sureAddr, run_fieldPlace (w := w) (t := t) ht hn, add_at, Nat.add_assoc]
theorem run_part {t n off : Nat} {r : Bool} (ht : tyI P t = some (r, n)) (vs : List Value) (hl : off + n ≤ vs.length) : (part t vs.toArray off).run P w = .ok (ofCells r ((vs.drop off).take n)) w := by
  obtain ⟨d, i, hu, hi, hr, hs, h1⟩ := tyI_inv ht
  unfold part
  rw [Sem.run_bind, run_isAgg hu, Result.andThen_ok, hr]
  cases r with
  | true =>
    simp only [if_true, Sem.run_bind, run_sizeOf hi, Result.andThen_ok, Sem.run_pure, hs, ofCells]
    congr 2
    simp [List.extract_eq_take_drop, Nat.add_sub_cancel_left]
  | false =>
    have h1 := h1 rfl
    subst h1
    have hlt : off < vs.length := by omega
    simp only [Bool.false_eq_true, if_false, ofCells]
    rw [List.getElem?_toArray, List.getElem?_eq_getElem hlt]
    simp only [Sem.run_pure]
    congr 1
    rw [List.drop_eq_getElem_cons hlt]
    rfl
theorem cells_take {l : List AV} {vs : List Value} {off n : Nat} (hl : vs.length = l.length) (hc : ∀ (i : Nat) (a : AV) (v : Value), l[i]? = some a → vs[i]? = some v → VR G a v) :
    ∀ (j : Nat) (a : AV) (v : Value), ((l.drop off).take n)[j]? = some a → ((vs.drop off).take n)[j]? = some v → VR G a v := fun j a v h1 h2 => by
  rw [List.getElem?_take] at h1 h2
  split at h1
  · rename_i hj
    rw [if_pos hj] at h2
    rw [List.getElem?_drop] at h1 h2
    exact hc _ _ _ h1 h2
  · cases h1
theorem fieldP_ok {t f : Nat} (S : Sim T G h w) (hs : (fieldP P t a f).1) (ha : VR G a u) : PR T G h (fieldP P t a f).2 ((Instr.field t u f >>= fun z => pure (Next.value z)).run P w) := by
  unfold fieldP at hs ⊢
  split at hs <;> try exact hs.elim
  rename_i l off n r hf
  obtain ⟨fs, fd, hu, hfd, rfl, ht, hn⟩ := fdI_inv hf
  obtain ⟨_, _, _, _, _, _, hr1⟩ := tyI_inv ht
  dsimp only at hs
  cases ha with
  | agg _ vs hl hc =>
    refine ⟨G, ofCells r ((vs.drop fd.offset).take n), w, ?_, Gle.refl G, S, ofCellsA_ok (n := n) (by simp; omega) (by simp; omega) hr1 (cells_take hl hc)⟩
    have hp := run_part (P := P) (w := w) ht vs (off := fd.offset) (by omega)
    simp [Instr.field, run_underlying hu, hfd, asAgg, hp]
theorem slI_inv {t e s y : Nat} (hh : slI P t = some (e, s, y)) : ∃ i, P.underlying t = some (.slice e) ∧ P.info? e = some i ∧ i.size = s ∧ i.bytes = y ∧ (i.zero.map fun z => z.cells.size) = some s ∧ 0 < s := by
  unfold slI at hh
  split at hh
  · rename_i e' hu
    split at hh
    · rename_i i hi
      split at hh
      · rename_i hc
        simp only [Option.some.injEq, Prod.mk.injEq] at hh
        obtain ⟨rfl, rfl, rfl⟩ := hh
        exact ⟨i, hu, hi, rfl, rfl, hc.1, hc.2⟩
      · cases hh
    · cases hh
  · cases hh
theorem arI_inv {t n s : Nat} {r : Bool} (hh : arI P t = some (n, s, r)) : ∃ e, P.underlying t = some (.array n e) ∧ tyI P e = some (r, s) := by
  unfold arI at hh
  split at hh
  · rename_i n' e hu
    split at hh
    · rename_i r' s' ht
      simp only [Option.some.injEq, Prod.mk.injEq] at hh
      obtain ⟨rfl, rfl, rfl⟩ := hh
      exact ⟨e, hu, ht⟩
    · cases hh
  · cases hh
theorem run_indexAt_slice {t e s y : Nat} (hh : slI P t = some (e, s, y)) (b o n c : Nat) (k : IntKind) (j : Int) (h0 : 0 ≤ j) (h1 : j < n) :
    (Instr.indexAt t (.slice (some ⟨b, o, none⟩) n c) (.int k j)).run P w = .ok (.pointer (some ⟨b, o + j.toNat * s, none⟩)) w := by
  obtain ⟨i, hu, hi, hs, _⟩ := slI_inv hh
  simp [Instr.indexAt, asIntOf, run_underlying hu, h0, h1, run_sizeOf hi, hs, add_at]
theorem run_indexAt_array {t n s : Nat} {r : Bool} (hh : arI P t = some (n, s, r)) (b o : Nat) (k : IntKind) (j : Int) (h0 : 0 ≤ j) (h1 : j < n) :
    (Instr.indexAt t (.pointer (some ⟨b, o, none⟩)) (.int k j)).run P w = .ok (.pointer (some ⟨b, o + j.toNat * s, none⟩)) w := by
  obtain ⟨e, hu, ht⟩ := arI_inv hh
  obtain ⟨_, i, _, hi, _, hs, _⟩ := tyI_inv ht
  simp [Instr.indexAt, asIntOf, run_underlying hu, Instr.sureAddr, h0, h1, run_sizeOf hi, hs, add_at]
theorem elt_of_slc {F : Frz} {k : Nat} {rows : List (List D)} (hd : VD G.frz (.slc k rows) v) (hj : 0 < rows.length) : ∃ b off c, v = .slice (some ⟨b, off, none⟩) rows.length c ∧ ∀ i, i < rows.length → VR G (.elt k rows i 0) (.pointer (some ⟨b, off + i * k, none⟩)) := by
  obtain ⟨A, c, rfl, _, _, _, hk, hx⟩ := hd.slc_inv
  obtain ⟨b, off, val, rfl, hv⟩ := hx hj
  refine ⟨b, off, c, rfl, fun i hi => ?_⟩
  have hr : rows[i]? = some rows[i] := List.getElem?_eq_getElem hi
  have := VR.elt (G := G) k rows i 0 b (off + i * k) (fun j => val i j) rows[i] hr (fun j x hx => by rw [Nat.add_assoc]; exact (hv i _ j x hr hx).1) (fun j x hx => (hv i _ j x hr hx).2)
  simpa using this
theorem indexAddrP_ok {t : Nat} (S : Sim T G h w) (hs : (indexAddrP P t a b).1) (ha : VR G a u) (hb : VR G b v) : PR T G h (indexAddrP P t a b).2 ((Instr.indexAt t u v >>= fun z => pure (Next.value z)).run P w) := by
  unfold indexAddrP at hs ⊢
  split at hs <;> try exact hs.elim
  · rename_i k rows kk j
    rw [hb.int_inv]
    split at hs <;> try exact hs.elim
    rename_i e s y he
    obtain ⟨rfl, h0, h1⟩ := hs
    cases ha with
    | d hd =>
      obtain ⟨b, off, c, rfl, hx⟩ := elt_of_slc (F := G.frz) hd (by omega)
      refine ⟨G, _, w, ?_, Gle.refl G, S, hx j.toNat (by omega)⟩
      simp [run_indexAt_slice (w := w) he b off rows.length c kk j h0 h1]
  · rename_i t' k rows kk j
    rw [hb.int_inv]
    split at hs <;> try exact hs.elim
    rename_i e s y he
    obtain ⟨rfl, h0, h1⟩ := hs
    cases ha with
    | own hd _ =>
      obtain ⟨b, off, c, rfl, hx⟩ := elt_of_slc (F := G.frz) hd (by omega)
      refine ⟨G, _, w, ?_, Gle.refl G, S, hx j.toNat (by omega)⟩
      simp [run_indexAt_slice (w := w) he b off rows.length c kk j h0 h1]
  · rename_i b' k n c kk j
    rw [hb.int_inv]
    split at hs <;> try exact hs.elim
    rename_i e s y he
    obtain ⟨rfl, h0, h1⟩ := hs
    cases ha
    refine ⟨G, .pointer (some ⟨b', j.toNat * s + 0, none⟩), w, ?_, Gle.refl G, S, .ptr ..⟩
    simp [run_indexAt_slice (w := w) he b' 0 n c kk j h0 h1]
  · rename_i b' k i o kk j
    rw [hb.int_inv]
    split at hs <;> try exact hs.elim
    rename_i n s r he
    obtain ⟨h0, h1⟩ := hs
    cases ha
    refine ⟨G, .pointer (some ⟨b', i * k + (o + j.toNat * s), none⟩), w, ?_, Gle.refl G, S, .ptr ..⟩
    simp [run_indexAt_array (w := w) he b' _ kk j h0 h1, Nat.add_assoc]
  · rename_i k rows i o kk j
    rw [hb.int_inv]
    split at hs <;> try exact hs.elim
    rename_i n s r he
    obtain ⟨h0, h1⟩ := hs
    cases ha with
    | elt _ _ _ _ b off val r hr hf hv =>
      refine ⟨G, .pointer (some ⟨b, off + (o + j.toNat * s), none⟩), w, ?_, Gle.refl G, S, .elt k rows i _ b off val r hr hf hv⟩
      simp [run_indexAt_array (w := w) he b _ kk j h0 h1, Nat.add_assoc]
theorem indexP_ok {t : Nat} (S : Sim T G h w) (hs : (indexP P t a b).1) (ha : VR G a u) (hb : VR G b v) : PR T G h (indexP P t a b).2 ((Instr.index t u v >>= fun z => pure (Next.value z)).run P w) := by
  unfold indexP at hs ⊢
  split at hs <;> try exact hs.elim
  · rename_i s kk j
    obtain ⟨h0, h1, h2⟩ := hs
    rw [hb.int_inv]
    obtain ⟨t', rfl, hs1, hs2⟩ := ha.str_inv
    have hu := isStr_inv h0
    subst hs1
    have hlt : j.toNat < t'.size := by
      have : t'.data.toList.length = t'.size := by rw [Array.length_toList]; rfl
      omega
    refine ⟨G, .int .u8 (t'.data.toList.getD j.toNat 0).toNat, w, ?_, Gle.refl G, S, VR.int _ _⟩
    have hg : t'[j.toNat]? = some (t'.data.toList.getD j.toNat 0) := by
      rw [ByteArray.getElem?_lt' t' _ hlt]
      congr 1
      have : j.toNat < t'.data.toList.length := by rw [Array.length_toList]; exact hlt
      simp only [List.getD, List.getElem?_eq_getElem this, Option.getD_some]
      rfl
    simp [Instr.index, asIntOf, run_underlying hu, h1, hg]
  · rename_i l kk j
    rw [hb.int_inv]
    split at hs <;> try exact hs.elim
    rename_i n s r he
    obtain ⟨h0, h1, h2⟩ := hs
    obtain ⟨e, hu, ht⟩ := arI_inv he
    obtain ⟨_, i, _, hi, _, hsz, hr1⟩ := tyI_inv ht
    cases ha with
    | agg _ vs hl hc =>
      refine ⟨G, ofCells r ((vs.drop (j.toNat * s)).take s), w, ?_, Gle.refl G, S, ofCellsA_ok (n := s) (by simp; omega) (by simp; omega) hr1 (cells_take hl hc)⟩
      have hp := run_part (P := P) (w := w) ht vs (off := j.toNat * s) (by omega)
      simp [Instr.index, asIntOf, run_underlying hu, h0, h1, run_sizeOf hi, hsz, hp]
theorem loadP_ok {t : Nat} (S : Sim T G h w) (hs : (loadP P t a h).1) (ha : VR G a u) : PR T G h (loadP P t a h).2 ((Instr.loadAt t u >>= fun z => pure (Next.value z)).run P w) := by
  unfold loadP at hs ⊢
  split at hs <;> try exact hs.elim
  · rename_i b k i o r n ht
    split at hs <;> try exact hs.elim
    rename_i cs hc
    cases ha
    obtain ⟨vs, h1, h2, h3, _, h4⟩ := ldA_ok S hc
    obtain ⟨_, _, _, _, _, _, hr1⟩ := tyI_inv ht
    refine ⟨G, ofCells r vs, w, ?_, Gle.refl G, S, ofCellsA_ok h2 h3 hr1 h4⟩
    simp [run_load_av ht h2 h1]
  · rename_i k rows i o r n ht
    obtain ⟨_, _, _, _, _, _, hr1⟩ := tyI_inv ht
    cases ha with
    | elt _ _ _ _ b off val row hr hf hv =>
      have hg : rows.getD i [] = row := by simp [List.getD, hr]
      rw [hg] at hs ⊢
      dsimp only at hs
      refine ⟨G, ofCells r ((List.range n).map fun j => val (o + j)), w, ?_, Gle.refl G, S, ofCellsA_ok (n := n) (by simp) (by simp; omega) hr1 (fun j a v h1 h2 => ?_)⟩
      · have hra : w.rangeAt b (off + o) ((List.range n).map fun j => val (o + j)) := fun j v hv' => by
          rw [List.getElem?_map] at hv'
          rcases Nat.lt_or_ge j n with hj | hj
          · rw [List.getElem?_range hj, Option.map_some] at hv'
            injection hv' with hv'
            rw [Nat.add_assoc, ← hv']
            exact S.frz _ _ _ (hf (o + j) _ (List.getElem?_eq_getElem (by omega)))
          · rw [List.getElem?_eq_none (by simpa using hj)] at hv'; cases hv'
        simp [run_load_av ht (by simp) hra]
      · have hj : j < n := by
          have := (List.getElem?_eq_some_iff.1 h2).1
          simpa using this
        rw [List.getElem?_map, List.getElem?_take_of_lt hj, List.getElem?_drop] at h1
        rw [List.getElem?_map, List.getElem?_range hj, Option.map_some] at h2
        injection h2 with h2
        obtain ⟨x, hx, rfl⟩ := Option.map_eq_some_iff.1 h1
        rw [← h2]
        exact .d (hv _ _ hx)
end
end Go.Proofs.YtnoboapafndnlaaDoor

/- Abstract values: the words that the walk opens. -/
import Derived.Test.YtnoboapafndnlaaDoorAvJ
import Derived.Test.YtnoboapafndnlaaDoorAvM
namespace Go.Proofs.YtnoboapafndnlaaDoor
/-- slices of one's own, handed over -/
def frzA : AV → AV
  | .own _ k r => .d (.slc k r)
  | a => a
def okF1 : AV → Bool
  | .d _ | .own .. | .ptr .. | .elt .. | .nilp | .nilf | .nili => true
  | _ => false
def okF : AV → Bool
  | .agg l => l.all fun | .d _ => true | _ => false
  | .fn _ l => l.all fun | .ptr .. => true | _ => false
  | a => okF1 a
theorem LeD.rfl' (x : D) : LeD x x := by cases x <;> simp [LeD]
theorem LeL.self {l : List AV} (h : (l.all fun | .d _ => true | _ => false) = true) : LeL false l l := by
  induction l with
  | nil => simp [LeL]
  | cons a l ih =>
    simp only [List.all_cons, Bool.and_eq_true] at h
    simp only [LeL]
    refine ⟨?_, ih h.2⟩
    cases a <;> first | (cases h.1; done) | (simp only [LeA]; exact LeD.rfl' _)
theorem LeL.selfp {l : List AV} (h : (l.all fun | .ptr .. => true | _ => false) = true) : LeL false l l := by
  induction l with
  | nil => simp [LeL]
  | cons a l ih =>
    simp only [List.all_cons, Bool.and_eq_true] at h
    simp only [LeL]
    refine ⟨?_, ih h.2⟩
    cases a <;> first | (cases h.1; done) | (simp [LeA]; done)
theorem LeL.frz : ∀ {l : List AV}, l.all okF = true → LeL false l (l.map frzA)
  | [], _ => by simp [LeL]
  | a :: l, h => by
    simp only [List.all_cons, Bool.and_eq_true] at h
    simp only [List.map_cons, LeL]
    refine ⟨?_, LeL.frz h.2⟩
    have h1 := h.1
    cases a with
    | d x => simp only [frzA, LeA]; exact LeD.rfl' _
    | agg l => simp only [frzA, LeA]; exact LeL.self h1
    | fn f l => simp only [frzA, LeA, true_and]; exact LeL.selfp h1
    | tup l => simp [okF, okF1] at h1
    | ifc t a => simp [okF, okF1] at h1
    | cnd g a => simp [okF, okF1] at h1
    | undef => simp [okF, okF1] at h1
    | any => simp [okF, okF1] at h1
    | arr b k n c => simp [okF, okF1] at h1
    | nils => simp [okF, okF1] at h1
    | _ => simp [frzA, LeA]
section
variable {P : Program} {T : Tbl} {h : AH} {sl : List AV} {ops : Array Oper} {rest : List Oper} {o : Oper} {K : List AV → AH → Prop} {X : AV → AH → Prop} {cp : Bool}
theorem DW.pcr {c : Call} {fo : Operand} {f : FuncId} {cap args : List AV} {r : AV} (ho : o.op = .call c) (hg : o.guard = none) (hc : c.callee = .value fo) (hf : ev T sl fo = .fn f cap)
    (C : PC P T f args r) (ha : (c.args.toList.map (ev T sl) ++ cap).map frzA = args) (hk : (c.args.toList.map (ev T sl) ++ cap).all okF = true) (k : lvc P T cp ops rest (putA o.dst r sl) h K X) : DW P T cp ops (o :: rest) sl h K X :=
  DW.pc ho hg hc hf C (by rw [← ha]; exact LeL.frz hk) k
theorem DW.pcgr {c : Call} {fo : Operand} {f : FuncId} {cap args : List AV} {r : AV} {g : Nat × Bool} {t : Bool} (ho : o.op = .call c) (hg : o.guard = some g) (ht : gdA ops sl g.1 g.2 = some t) (hc : c.callee = .value fo) (hf : evs T sl fo = .fn f cap)
    (C : t = true → PC P T f args r) (hok : t = true → okL T sl (fo :: c.args.toList) = true) (ha : (c.args.toList.map (evs T sl) ++ cap).map frzA = args) (hk : (c.args.toList.map (evs T sl) ++ cap).all okF = true) (k : lvc P T cp ops rest (putA o.dst (.cnd t r) sl) h K X) : DW P T cp ops (o :: rest) sl h K X :=
  DW.pcg ho hg ht hc hf C hok (by rw [← ha]; exact LeL.frz hk) k
end
/-- texts, as data -/
def strD (s : List UInt8) : List D := [.str s]
def strs (l : List (List UInt8)) : D := .slc 1 (l.map strD)
theorem map_getD {α β : Type} (f : α → β) (l : List α) (i : Nat) (d : β) (h : i < l.length) : (l.map f).getD i d = f (l[i]'h) := by
  simp only [List.getD, List.getElem?_map, List.getElem?_eq_getElem h, Option.map_some, Option.getD_some]
@[go_sem] theorem beqT (b : Bool) : (b == true) = b := by cases b <;> rfl
@[go_sem] theorem beqF (b : Bool) : (b == false) = !b := by cases b <;> rfl
@[go_sem] theorem condAnd (a b : Bool) : (bif a then b else false) = (a && b) := by cases a <;> rfl
@[go_sem] theorem condOr (a b : Bool) : (bif a then true else b) = (a || b) := by cases a <;> rfl
section
variable (T : Tbl) (sl : List AV)
@[go_sem] theorem ev_tmp (t : Tmp) : ev T sl (.tmp t) = sl.getD t .any := rfl
@[go_sem] theorem ev_const (v : Value) : ev T sl (.const v) = ofV v := rfl
@[go_sem] theorem ev_global (g : Nat) : ev T sl (.global g) = .elt (T g).length [T g] 0 0 := rfl
@[go_sem] theorem ev_func (f : FuncId) : ev T sl (.func f) = .fn f [] := rfl
@[go_sem] theorem evs_tmp (t : Tmp) : evs T sl (.tmp t) = (sl.getD t .any).strip := rfl
@[go_sem] theorem evs_const (v : Value) : evs T sl (.const v) = (ofV v).strip := rfl
@[go_sem] theorem evs_global (g : Nat) : evs T sl (.global g) = .elt (T g).length [T g] 0 0 := rfl
@[go_sem] theorem evs_func (f : FuncId) : evs T sl (.func f) = .fn f [] := rfl
@[go_sem] theorem strip_d (x : D) : (AV.d x).strip = .d x := rfl
@[go_sem] theorem strip_cnd (g : Bool) (a : AV) : (AV.cnd g a).strip = a := rfl
@[go_sem] theorem strip_own (t k : Nat) (r : List (List D)) : (AV.own t k r).strip = .own t k r := rfl
@[go_sem] theorem strip_ptr (b k i o : Nat) : (AV.ptr b k i o).strip = .ptr b k i o := rfl
@[go_sem] theorem strip_elt (k : Nat) (r : List (List D)) (i o : Nat) : (AV.elt k r i o).strip = .elt k r i o := rfl
@[go_sem] theorem strip_agg (l : List AV) : (AV.agg l).strip = .agg l := rfl
@[go_sem] theorem strip_tup (l : List AV) : (AV.tup l).strip = .tup l := rfl
@[go_sem] theorem strip_fn (f : FuncId) (l : List AV) : (AV.fn f l).strip = .fn f l := rfl
@[go_sem] theorem strip_nils : AV.nils.strip = .nils := rfl
@[go_sem] theorem okc_d (x : D) : (AV.d x).okc = true := rfl
@[go_sem] theorem okc_cnd (g : Bool) (a : AV) : (AV.cnd g a).okc = g := rfl
@[go_sem] theorem okc_own (t k : Nat) (r : List (List D)) : (AV.own t k r).okc = true := rfl
@[go_sem] theorem okc_ptr (b k i o : Nat) : (AV.ptr b k i o).okc = true := rfl
@[go_sem] theorem okc_elt (k : Nat) (r : List (List D)) (i o : Nat) : (AV.elt k r i o).okc = true := rfl
@[go_sem] theorem okc_agg (l : List AV) : (AV.agg l).okc = true := rfl
@[go_sem] theorem okc_tup (l : List AV) : (AV.tup l).okc = true := rfl
@[go_sem] theorem okc_fn (f : FuncId) (l : List AV) : (AV.fn f l).okc = true := rfl
@[go_sem] theorem okc_nils : AV.nils.okc = true := rfl
end
attribute [go_sem] true_or or_true okL opL Option.toList_none Option.toList_some Bool.and_true Bool.true_and Bool.and_self imp_self implies_true
attribute [go_sem] List.getElem?_toArray
attribute [go_sem] lvc opP opG effP pickP pickB loadP nilP unP fieldAddrP fieldP extractP indexAddrP indexP lenP minP binX binP arithP shiftP eqP eqC eqKs
  buildP fillA buildSliceP rowsOf toD toDs AV.cells AV.plain AV.one optI cutP sliceP convP ifaceP getO setO ldA stA ofCellsA ofV putA gdA 
  freshL freshT replT srcR pick resOf resL resA LeA LeL LeD koP inR pureQ endQ thenQ blkQ keepA
attribute [go_sem] List.filterMap_cons List.filterMap_nil List.length_map strs strD Int.toNat_natCast Int.natCast_nonneg and_self Option.some.injEq D.bool.injEq D.int.injEq D.str.injEq D.slc.injEq AV.d.injEq AV.tup.injEq AV.agg.injEq List.cons.injEq exists_eq_left' exists_eq_left exists_eq' Nat.add_zero Nat.zero_add List.contains_cons List.contains_nil Bool.true_or Bool.or_true Bool.or_false Bool.false_or beq_self_eq_true
attribute [go_sem] List.length_cons List.length_nil List.replicate List.set_cons_zero List.set_cons_succ List.getD_cons_zero List.getD_cons_succ List.getElem?_cons_zero List.getElem?_cons_succ
  List.take_succ_cons List.take_zero List.drop_succ_cons List.drop_zero List.map_cons List.map_nil List.cons_append List.nil_append List.append_nil Option.map_some Option.map_none Option.bind_some Option.getD_some Option.getD_none
  List.all_cons List.all_nil List.headD_cons List.isEmpty_nil
  Option.isSome_some Option.isSome_none true_and and_true if_true if_false eq_self Bool.false_eq_true not_true_eq_false not_false_eq_true ite_self
attribute [go_sem_proc] Nat.reduceAdd Nat.reduceMul Nat.reduceSub Nat.reduceLeDiff Nat.reduceLT Nat.reduceBEq Nat.reduceEqDiff Nat.reduceDiv Nat.reduceMod reduceIte
attribute [go_sem] TW and_true true_and LeObs LeRows AV.one List.all_cons List.all_nil or_self
end Go.Proofs.YtnoboapafndnlaaDoor

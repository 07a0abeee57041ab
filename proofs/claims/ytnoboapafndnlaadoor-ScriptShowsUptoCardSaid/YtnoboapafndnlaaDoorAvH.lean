/- Abstract values: what a list of operations asks for. -/
import Derived.Test.YtnoboapafndnlaaDoorAvG
namespace Go.Proofs.YtnoboapafndnlaaDoor
open Go.RowKit
set_option linter.unusedSimpArgs false
set_option linter.unusedVariables false

def binX (P : Program) (op : BinOp) (t : TypeId) (a b : AV) : PV :=
  match a with
  | .agg _ => eqP P op t a b
  | _ => binP P op t a b
def opP (P : Program) (op : Op) (ρ : Operand → AV) (h : AH) : Option PV :=
  match op with
  | .move x => some (True, ρ x)
  | .assign x => some (True, ρ x)
  | .pick c a b => some (pickP (ρ c) (ρ a) (ρ b))
  | .load t a => some (loadP P t (ρ a) h)
  | .nilCheck x => some (nilP (ρ x))
  | .binOp op t x y _ => some (binX P op t (ρ x) (ρ y))
  | .unOp op _ x => some (unP op (ρ x))
  | .convert s d x => some ((P.underlying s).isSome = true ∧ (convP P s d (ρ x)).1, (convP P s d (ρ x)).2)
  | .makeInterface t x => some (ifaceP P t (ρ x))
  | .makeFunc (.func f) first cap => if first.isEmpty = true then some (True, .fn f (cap.toList.map ρ)) else none
  | .slice t x lo hi mx => some (sliceP P t (ρ x) (lo.map ρ) (hi.map ρ) (mx.map ρ))
  | .fieldAddr t x f => some (fieldAddrP P t (ρ x) f)
  | .field t x f => some (fieldP P t (ρ x) f)
  | .indexAddr t x i => some (indexAddrP P t (ρ x) (ρ i))
  | .index t x i => some (indexP P t (ρ x) (ρ i))
  | .extract x i => some (extractP (ρ x) i)
  | .build t ps => some (buildP P t (ps.toList.map fun p => (p.1, ρ p.2)))
  | .buildSlice t n ps => some (buildSliceP P t n (ps.toList.map fun p => (p.1, ρ p.2)))
  | .call { callee := .builtin .len, args := ⟨[x]⟩, argTypes := ⟨[t]⟩ } => some (lenP P t (ρ x))
  | .call { callee := .builtin .min, args := ⟨[x, y]⟩, .. } => some (minP (ρ x) (ρ y))
  | _ => none
section
variable {P : Program} {T : Tbl} {G : Gh} {h : AH} {w : World} {a b c : AV} {u v x : Value}
theorem binX_ok (op : BinOp) (t : TypeId) (x y : Operand) (S : Sim T G h w) (hs : (binX P op t a b).1) (ha : VR G a u) (hb : VR G b v) :
    PR T G h (binX P op t a b).2 (((do eqGuard op t x y u v; binOp op t u v : Sem Value) >>= fun z => pure (Next.value z)).run P w) := by
  unfold binX at hs ⊢
  split at hs
  · exact eqP_ok op t x y S hs ha hb
  · exact binP_ok op t x y S hs ha hb
theorem lenP_ok {t : TypeId} (S : Sim T G h w) (hs : (lenP P t a).1) (ha : VR G a u) (ty : TypeId) : PR T G h (lenP P t a).2 ((Builtin.len_ #[t] ty #[u] >>= fun z => pure (Next.value z)).run P w) := by
  have sl : (slI P t).isSome = true → ∃ e, P.underlying t = some (.slice e) := fun e => by
    obtain ⟨⟨e, s, y⟩, h1⟩ := Option.isSome_iff_exists.1 e
    obtain ⟨_, hu, _⟩ := slI_inv h1
    exact ⟨e, hu⟩
  unfold lenP at hs ⊢
  split at hs <;> try exact hs.elim
  · obtain ⟨t', rfl, h1, _⟩ := ha.str_inv
    subst h1
    refine ⟨G, .int .i64 t'.data.toList.length, w, ?_, Gle.refl G, S, VR.int _ _⟩
    simp [Builtin.len_, run_underlying (isStr_inv hs), goInt]
  · obtain ⟨e, hu⟩ := sl hs
    cases ha with
    | d hd =>
      obtain ⟨A, c, rfl, _⟩ := hd.slc_inv
      refine ⟨G, _, w, ?_, Gle.refl G, S, VR.int _ _⟩
      simp [Builtin.len_, run_underlying hu, goInt]
  · obtain ⟨e, hu⟩ := sl hs
    cases ha with
    | own hd _ =>
      obtain ⟨A, c, rfl, _⟩ := hd.slc_inv
      refine ⟨G, _, w, ?_, Gle.refl G, S, VR.int _ _⟩
      simp [Builtin.len_, run_underlying hu, goInt]
  · obtain ⟨e, hu⟩ := sl hs
    cases ha
    refine ⟨G, .int .i64 0, w, ?_, Gle.refl G, S, VR.int _ _⟩
    simp [Builtin.len_, run_underlying hu, goInt]
  · obtain ⟨e, hu⟩ := sl hs
    cases ha
    refine ⟨G, _, w, ?_, Gle.refl G, S, VR.int _ _⟩
    simp [Builtin.len_, run_underlying hu, goInt]
theorem minP_ok (S : Sim T G h w) (hs : (minP a b).1) (ha : VR G a u) (hb : VR G b v) (ty : TypeId) (tys : Array TypeId) : PR T G h (minP a b).2 ((Builtin.min_ tys ty #[u, v] >>= fun z => pure (Next.value z)).run P w) := by
  unfold minP at hs ⊢
  split at hs <;> try exact hs.elim
  rename_i k x k' y
  dsimp only at hs
  subst hs
  have e1 := ha.int_inv
  have e2 := hb.int_inv
  subst e1 e2
  refine ⟨G, _, w, ?_, Gle.refl G, S, VR.int _ _⟩
  simp [Builtin.min_, Builtin.min2]
theorem parts_ok {ρ : Operand → AV} {e : Operand → Value} {l : List (Nat × Operand)} (hv : ∀ x ∈ l.map (·.2), VR G (ρ x) (e x)) :
    ∀ (i : Nat) (p : Nat × AV) (q : Nat × Value), (l.map fun p => (p.1, ρ p.2))[i]? = some p → (l.map fun p => (p.1, e p.2))[i]? = some q → p.1 = q.1 ∧ VR G p.2 q.2 := fun i p q h1 h2 => by
  rw [List.getElem?_map] at h1 h2
  obtain ⟨z, hz, rfl⟩ := Option.map_eq_some_iff.1 h1
  rw [hz] at h2
  injection h2 with h2
  subst h2
  exact ⟨rfl, hv _ (List.mem_map_of_mem (List.mem_of_getElem? hz))⟩
theorem opP_ok {op : Op} {ρ : Operand → AV} {r : PV} (e : opP P op ρ h = some r) (hs : r.1) {o : Oper} (ho : o.op = op) (S : Sim T G h w) {ec : Operand → Value} (hv : ∀ x ∈ op.operands.toList, VR G (ρ x) (ec x)) :
    PR T G h r.2 ((execOp ec o).run P w) := by
  unfold opP at e
  split at e
  case h_1 x =>
    injection e with e; subst e
    unfold execOp; simp only [ho]
    exact PR.pure S (hv x (by simp [Op.operands]))
  case h_2 x =>
    injection e with e; subst e
    unfold execOp; simp only [ho]
    exact PR.pure S (hv x (by simp [Op.operands]))
  case h_3 c a b =>
    injection e with e; subst e
    unfold execOp; simp only [ho]
    exact pickP_ok S hs (hv c (by simp [Op.operands])) (hv a (by simp [Op.operands])) (hv b (by simp [Op.operands]))
  case h_4 t a =>
    injection e with e; subst e
    unfold execOp; simp only [ho]
    exact loadP_ok S hs (hv a (by simp [Op.operands]))
  case h_5 x =>
    injection e with e; subst e
    exact nilP_ok S hs (hv x (by simp [Op.operands])) ho rfl
  case h_6 op t x y yt =>
    injection e with e; subst e
    unfold execOp; simp only [ho]
    exact binX_ok op t x y S hs (hv x (by simp [Op.operands])) (hv y (by simp [Op.operands]))
  case h_7 op t x =>
    injection e with e; subst e
    unfold execOp; simp only [ho]
    exact unP_ok op S hs (hv x (by simp [Op.operands]))
  case h_8 s d x =>
    injection e with e; subst e
    unfold execOp; simp only [ho]
    exact convP_ok S hs.1 hs.2 (hv x (by simp [Op.operands]))
  case h_9 t x =>
    injection e with e; subst e
    unfold execOp; simp only [ho]
    exact ifaceP_ok S hs (hv x (by simp [Op.operands]))
  case h_10 f first cap =>
    split at e
    · rename_i hf
      injection e with e; subst e
      have hf : first = #[] := by simpa using hf
      subst hf
      unfold execOp; simp only [ho]
      refine PR.pure S ?_
      obtain ⟨cap⟩ := cap
      have := VR.fn (G := G) f (cap.map ρ) (cap.map ec) (by simp) (fun i a v h1 h2 => by
        rw [List.getElem?_map] at h1 h2
        obtain ⟨z, hz, rfl⟩ := Option.map_eq_some_iff.1 h1
        rw [hz] at h2
        injection h2 with h2
        subst h2
        exact hv z (by
          have := List.mem_of_getElem? hz
          simp [Op.operands]
          exact this))
      simpa [Instr.makeFunc] using this
    · cases e
  case h_11 t x lo hi mx =>
    injection e with e; subst e
    unfold execOp; simp only [ho]
    have hopt : ∀ o : Option Operand, (∀ y ∈ o.toList, y ∈ (Op.slice t x lo hi mx).operands.toList) → ∀ z, o.map ec = some z → ∃ a, o.map ρ = some a ∧ VR G a z := fun o ho z hz => by
      cases o with
      | none => cases hz
      | some y => injection hz with hz; subst hz; exact ⟨_, rfl, hv y (ho y (by simp))⟩
    exact sliceP_ok S hs (hv x (by simp [Op.operands])) (hopt lo (fun y hy => by cases lo <;> simp at hy; subst hy; simp [Op.operands])) (fun e => by cases lo <;> simp_all) (hopt hi (fun y hy => by cases hi <;> simp at hy; subst hy; simp [Op.operands])) (fun e => by cases hi <;> simp_all) (hopt mx (fun y hy => by cases mx <;> simp at hy; subst hy; simp [Op.operands])) (fun e => by cases mx <;> simp_all)
  case h_12 t x f =>
    injection e with e; subst e
    unfold execOp; simp only [ho]
    exact fieldAddrP_ok S hs (hv x (by simp [Op.operands]))
  case h_13 t x f =>
    injection e with e; subst e
    unfold execOp; simp only [ho]
    exact fieldP_ok S hs (hv x (by simp [Op.operands]))
  case h_14 t x i =>
    injection e with e; subst e
    unfold execOp; simp only [ho]
    exact indexAddrP_ok S hs (hv x (by simp [Op.operands])) (hv i (by simp [Op.operands]))
  case h_15 t x i =>
    injection e with e; subst e
    unfold execOp; simp only [ho]
    exact indexP_ok S hs (hv x (by simp [Op.operands])) (hv i (by simp [Op.operands]))
  case h_16 x i =>
    injection e with e; subst e
    unfold execOp; simp only [ho]
    exact extractP_ok S hs (hv x (by simp [Op.operands]))
  case h_17 t ps =>
    injection e with e; subst e
    unfold execOp; simp only [ho]
    obtain ⟨ps⟩ := ps
    have := buildP_ok (qs := ps.map fun p => (p.1, ec p.2)) S hs (by simp) (parts_ok (fun x hx => hv x (by simpa [Op.operands] using hx)))
    simpa using this
  case h_18 t n ps =>
    injection e with e; subst e
    unfold execOp; simp only [ho]
    obtain ⟨ps⟩ := ps
    have := buildSliceP_ok (qs := ps.map fun p => (p.1, ec p.2)) S hs (by simp) (parts_ok (fun x hx => hv x (by simpa [Op.operands] using hx)))
    simpa using this
  case h_19 x t =>
    injection e with e; subst e
    unfold execOp; simp only [ho]
    have := lenP_ok S hs (hv x (by simp [Op.operands, Call.operands])) o.type
    simpa [resolve, invoke, builtin] using this
  case h_20 x y tys =>
    injection e with e; subst e
    unfold execOp; simp only [ho]
    have := minP_ok (P := P) S hs (hv x (by simp [Op.operands, Call.operands])) (hv y (by simp [Op.operands, Call.operands])) o.type tys
    simpa [resolve, invoke, builtin] using this
  case h_21 => cases e
end
end Go.Proofs.YtnoboapafndnlaaDoor

/- Abstract values: lists of operations; regions in their written order. -/
import Derived.Test.YtnoboapafndnlaaDoorAvH
namespace Go.Proofs.YtnoboapafndnlaaDoor
open Go.RowKit
set_option linter.unusedSimpArgs false
set_option linter.unusedVariables false

def putA (dst : Option Tmp) (v : AV) (sl : List AV) : List AV :=
  match dst with
  | some d => sl.set d v
  | none => sl
theorem SlR.put {G : Gh} {sl : List AV} {act : Act} (R : SlR G sl act.tmps) {a : AV} {v : Value} (hv : VR G a v) (dst : Option Tmp) : SlR G (putA dst a sl) (act.put dst v).tmps := by
  cases dst with
  | none => exact R
  | some d =>
    refine ⟨by simp [putA, Act.put, R.1], fun i b e => ?_⟩
    simp only [putA] at e
    simp only [Act.put]
    by_cases hi : d = i
    · subst hi
      have hlt : d < sl.length := by
        have := (List.getElem?_eq_some_iff.1 e).1
        simpa using this
      rw [List.getElem?_set_self hlt] at e
      injection e with e
      subst e
      exact ⟨v, by rw [Array.getElem?_setIfInBounds_self_of_lt (by rw [R.1]; exact hlt)], hv⟩
    · rw [List.getElem?_set_ne hi] at e
      obtain ⟨u, h1, h2⟩ := R.2 i b e
      exact ⟨u, by rw [Array.getElem?_setIfInBounds_ne hi]; exact h1, h2⟩
theorem put_defers (a : Act) (d : Option Tmp) (v : Value) : (a.put d v).defers = a.defers := by cases d <;> rfl
def LQ (K : List AV → AH → Prop) (X : AV → AH → Prop) : AQ
  | .normal, s, h => K s h
  | .pan p, _, h => X p h
  | _, _, _ => False
/-- operations, run in the order of the list -/
def LV (P : Program) (T : Tbl) (ops : Array Oper) (l : List Oper) (sl : List AV) (h : AH) (K : List AV → AH → Prop) (X : AV → AH → Prop) : Prop :=
  ∀ (G0 G : Gh) (w : World) (a : Act) (ds : List Deferred), Gle G0 G → Sim T G h w → SlR G sl a.tmps → a.defers = ds → wpList P ops (Lift T (LQ K X) G0 ds) l a w
def AV.strip : AV → AV
  | .cnd _ a => a
  | a => a
def AV.okc : AV → Bool
  | .cnd g _ => g
  | _ => true
theorem VR.strip {G : Gh} {a : AV} {v : Value} (h : VR G a v) (hk : a.okc = true) : VR G a.strip v := by
  cases h with
  | cndT h => exact h
  | cndF a => simp [AV.okc] at hk
  | d h => exact .d h
  | own h ht => exact .own h ht
  | nils => exact .nils
  | ptr => exact .ptr ..
  | elt k rows i o b off val r hr hf hv => exact .elt k rows i o b off val r hr hf hv
  | arr => exact .arr ..
  | fn f cap vs hl h => exact .fn f cap vs hl h
  | nilf => exact .nilf
  | nilp => exact .nilp
  | agg l vs hl h => exact .agg l vs hl h
  | tup l vs hl h => exact .tup l vs hl h
  | ifc t h => exact .ifc t h
  | nili => exact .nili
  | undef => exact .undef
  | any v => exact .any v
def gdA (ops : Array Oper) (sl : List AV) (j : Nat) (want : Bool) : Option Bool :=
  match (ops[j]?).bind (·.dst) with
  | some d => match sl.getD d .any with
    | .d (.bool b) => some (b == want)
    | .cnd g (.d (.bool b)) => some (g && (b == want))
    | .undef => some false
    | _ => none
  | none => some false
/-- operands of a guarded operation -/
def evs (T : Tbl) (sl : List AV) (x : Operand) : AV := (ev T sl x).strip
def okL (T : Tbl) (sl : List AV) : List Operand → Bool
  | [] => true
  | x :: l => (ev T sl x).okc && okL T sl l
def opL : Op → List Operand
  | .move x | .assign x | .load _ x | .nilCheck x | .unOp _ _ x | .convert _ _ x | .makeInterface _ x | .fieldAddr _ x _ | .field _ x _ | .extract x _ => [x]
  | .binOp _ _ a v _ | .indexAddr _ a v | .index _ a v => [a, v]
  | .slice _ x l h m => x :: (l.toList ++ (h.toList ++ m.toList))
  | .call { callee := .builtin .len, args := ⟨[x]⟩, .. } => [x]
  | op => op.operands.toList
theorem opL_mem {op : Op} {x : Operand} (h : x ∈ op.operands.toList) : x ∈ opL op := by
  unfold opL
  split <;> first
    | exact h
    | (simp [Op.operands, Call.operands] at h ⊢; first | exact h | (rcases h with h | h | h | h <;> simp [h]) | grind)
theorem okL_mem {T : Tbl} {sl : List AV} {x : Operand} : ∀ {l : List Operand}, okL T sl l = true → x ∈ l → (ev T sl x).okc = true
  | y :: l, h, hx => by
    simp only [okL, Bool.and_eq_true] at h
    rcases List.mem_cons.1 hx with rfl | hx
    · exact h.1
    · exact okL_mem h.2 hx
def opG (P : Program) (op : Op) (T : Tbl) (sl : List AV) (h : AH) : Option PV :=
  match op with
  | .pick c a b => some (pickP (ev T sl c) (ev T sl a) (ev T sl b))
  | op => match opP P op (evs T sl) h with
    | some r => some (okL T sl (opL op) = true ∧ r.1, r.2)
    | none => none
/-- zero cells of a type -/
def zI (P : Program) (t : TypeId) : Option (List AV) :=
  match (P.info? t).bind (·.zero) with
  | some z => if (z.cells.toList.map ofV).all AV.one = true then some (z.cells.toList.map ofV) else none
  | none => none
inductive Eff where
  | obj (ob : Ob)
  | put (objs : List (Nat × Ob))
def stA (objs : List (Nat × Ob)) (b k i o : Nat) (cs : List AV) : Option (List (Nat × Ob)) :=
  match getO b objs with
  | some ob => if ob.k = k ∧ o + cs.length ≤ k then (match ob.rows[i]? with
    | some r => some (setO b ⟨ob.k, ob.c, ob.rows.set i (r.take o ++ (cs ++ r.drop (o + cs.length)))⟩ objs)
    | none => none) else none
  | none => none
def effP (P : Program) (op : Op) (ρ : Operand → AV) (h : AH) : Option Eff :=
  match op with
  | .alloc t => match zI P t with
    | some z => some (.obj ⟨z.length, 1, [z]⟩)
    | none => none
  | .box _ x => if (ρ x).plain = true then some (.obj ⟨(ρ x).cells.length, 1, [(ρ x).cells]⟩) else none
  | .store t a v => match ρ a, tyI P t with
    | .ptr b k i o, some (_, n) => if (ρ v).plain = true ∧ (ρ v).cells.length = n then (match stA h.objs b k i o (ρ v).cells with
      | some objs => some (.put objs)
      | none => none) else none
    | _, _ => none
  | _ => none
def freshL (b : Nat) : List (Nat × Ob) → Prop
  | [] => True
  | p :: r => ((p.1 == b) = false ∧ (b == p.1) = false) ∧ freshL b r
/-- kinds of operations: may one change the abstract heap? does one not look at it? -/
def effK (cp : Bool) (o : Oper) : Bool :=
  match o.guard with
  | some _ => false
  | none => match o.op with
    | .alloc _ | .box .. | .store .. | .panic _ | .defer _ | .go _ | .makeMap .. | .mapUpdate .. | .makeSlice .. => true
    | .call { callee := .value _, .. } => !cp
    | .buildSlice .. => !cp
    | .call { callee := .builtin .len, .. } => false
    | .call { callee := .builtin .min, .. } => false
    | .call _ => true
    | _ => false
def hiK (o : Oper) : Bool :=
  match o.op with
  | .load .. | .lookup .. => false
  | _ => true
/-- an operation that leaves the abstract heap yields v -/
def AYv (P : Program) (T : Tbl) (o : Oper) (ρ : Operand → AV) (h : AH) (v : AV) : Prop :=
  ∀ (G : Gh) (w : World) (a : Act), Sim T G h w → (∀ x ∈ o.op.operands.toList, VR G (ρ x) (a.eval x)) → ∀ (Kc : Act → World → Prop) (Q : Exit → Act → World → Prop),
    (∀ G' u w', Gle G G' → Sim T G' h w' → VR G' v u → Kc (a.put o.dst u) w') → o.wp P a w Kc Q
def Yg (P : Program) (T : Tbl) (ops : Array Oper) (o : Oper) (v : AV) (sl : List AV) (h : AH) : Prop :=
  match o.guard with
  | none => AYv P T o (ev T sl) h v
  | some g => ∃ t v0, gdA ops sl g.1 g.2 = some t ∧ v = .cnd t v0 ∧ (t = true → AYv P T o (ev T sl) h v0)
/-- an operation that may change it -/
def ESt (P : Program) (T : Tbl) (o : Oper) (sl : List AV) (h : AH) (N : AV → AH → Prop) (X : AV → AH → Prop) : Prop :=
  o.guard = none ∧ ∀ (G : Gh) (w : World) (a : Act), Sim T G h w → (∀ x ∈ o.op.operands.toList, VR G (ev T sl x) (a.eval x)) → ∀ (Kc : Act → World → Prop) (Q : Exit → Act → World → Prop),
    (∀ r h' G' u w', N r h' → Gle G G' → Sim T G' h' w' → VR G' r u → Kc (a.put o.dst u) w') →
    (∀ p h' G' u w', X p h' → Gle G G' → Sim T G' h' w' → VR G' p u → Q (.panic [{ v := u, recovered := false }]) a w') → o.wp P a w Kc Q
/-- the walk through operations, one behind the other; cp: calls are pure -/
def DW (P : Program) (T : Tbl) (cp : Bool) (ops : Array Oper) : List Oper → List AV → AH → (List AV → AH → Prop) → (AV → AH → Prop) → Prop
  | [], sl, h, K, X => K sl h
  | o :: rest, sl, h, K, X => if effK cp o = true then ESt P T o sl h (fun r h' => DW P T cp ops rest (putA o.dst r sl) h' K X) X
    else ∃ v, Yg P T ops o v sl h ∧ (hiK o = true → ∀ h', Yg P T ops o v sl h') ∧ DW P T cp ops rest (putA o.dst v sl) h K X
/-- what the operations ask for -/
def lvc (P : Program) (T : Tbl) (cp : Bool) (ops : Array Oper) : List Oper → List AV → AH → (List AV → AH → Prop) → (AV → AH → Prop) → Prop
  | [], sl, h, K, X => K sl h
  | o :: rest, sl, h, K, X => match o.guard with
    | none => match opP P o.op (ev T sl) h with
      | some r => r.1 ∧ lvc P T cp ops rest (putA o.dst r.2 sl) h K X
      | none => match effP P o.op (ev T sl) h with
        | some (.obj ob) => ∀ b, freshL b h.objs → lvc P T cp ops rest (putA o.dst (.ptr b ob.k 0 0) sl) ⟨(b, ob) :: h.objs, h.live⟩ K X
        | some (.put objs) => lvc P T cp ops rest (putA o.dst .undef sl) ⟨objs, h.live⟩ K X
        | none => DW P T cp ops (o :: rest) sl h K X
    | some g => match gdA ops sl g.1 g.2 with
      | some t => match opG P o.op T sl h with
        | some r => (t = true → r.1) ∧ lvc P T cp ops rest (putA o.dst (.cnd t r.2) sl) h K X
        | none => DW P T cp ops (o :: rest) sl h K X
      | none => False
section
variable {P : Program} {T : Tbl} {G : Gh} {h : AH} {w : World} {sl : List AV} {ops : Array Oper} {rest : List Oper} {o : Oper} {K : List AV → AH → Prop} {X : AV → AH → Prop}
theorem fresh_new : ∀ {l : List (Nat × Ob)} {n : Nat}, (∀ p ∈ l, p.1 < n) → freshL n l
  | [], _, _ => trivial
  | p :: r, n, h => by
    have := h p (List.mem_cons_self ..)
    exact ⟨⟨by simp; omega, by simp; omega⟩, fresh_new fun q hq => h q (List.mem_cons_of_mem _ hq)⟩
theorem one_row {cs : List AV} {vs : List Value} (hc : CellsR G cs vs) (h1 : ∀ a ∈ cs, a.one = true) : ∀ (i : Nat) (r : List AV) (j : Nat) (a : AV), [cs][i]? = some r → r[j]? = some a → a.one = true ∧ ∃ v, vs.toArray[i * cs.length + j]? = some v ∧ VR G a v := fun i r j a e1 e2 => by
  cases i with
  | succ i => simp at e1
  | zero =>
    simp at e1
    subst e1
    refine ⟨h1 a (List.mem_of_getElem? e2), ?_⟩
    have hj : j < vs.length := by rw [hc.1]; exact (List.getElem?_eq_some_iff.1 e2).1
    exact ⟨vs[j], by simp [hj], hc.2 j a _ e2 (List.getElem?_eq_getElem hj)⟩
theorem plain_one {a : AV} (h : a.plain = true) : ∀ x ∈ a.cells, x.one = true := by
  cases a <;> simp only [AV.plain, AV.cells] at h ⊢ <;> first
    | exact List.all_eq_true.1 h
    | (intro x hx; rw [List.mem_singleton.1 hx]; exact h)
theorem store_ok (S : Sim T G h w) {t b k i o n : Nat} {r : Bool} {a : AV} {v : Value} {objs : List (Nat × Ob)} (ht : tyI P t = some (r, n)) (hp : a.plain = true) (hn : a.cells.length = n) (hv : VR G a v)
    (e : stA h.objs b k i o a.cells = some objs) : ∃ w', (Instr.storeAt t (.pointer (some ⟨b, i * k + o, none⟩)) v).run P w = .ok () w' ∧ Sim T G ⟨objs, h.live⟩ w' := by
  unfold stA at e
  split at e <;> try (cases e; done)
  rename_i ob hg
  split at e <;> try (cases e; done)
  rename_i hc
  obtain ⟨rfl, hfit⟩ := hc
  split at e <;> try (cases e; done)
  rename_i row hr
  injection e with e
  subst e
  have hO := S.obj _ (getO_mem hg)
  have hfits : ob.rows.length ≤ ob.c := hO.fits
  obtain ⟨vs, ty, fz, hh, hs, hz, hm⟩ := hO.mem
  dsimp only at hs hm
  have hcells := hv.cells hp
  have hi : i < ob.rows.length := (List.getElem?_eq_some_iff.1 hr).1
  have hrow : row.length = ob.k := hO.lenk row (List.mem_of_getElem? hr)
  have hik : i * ob.k + ob.k ≤ vs.size := by
    rw [hs, ← Nat.succ_mul]
    exact Nat.mul_le_mul_right _ (by omega)
  have hlen : v.cells.toList.length = n := by rw [hcells.1, hn]
  have hrun := run_store_av (P := P) (w := w) (o := i * ob.k + o) ht (v := v) rfl hlen (fun u hu => by
    obtain ⟨j, hj, rfl⟩ := List.getElem_of_mem hu
    have hj' : j < a.cells.length := by rw [← hcells.1]; exact hj
    exact (hcells.2 j _ _ (List.getElem?_eq_getElem hj') (List.getElem?_eq_getElem hj)).one (plain_one hp _ (List.getElem_mem hj'))) hh hz (by omega)
  obtain ⟨vs', h1, h2, h3⟩ := setCells_heap b v.cells.toList (i * ob.k + o) w vs ty fz hh
  have hnewlen : (row.take o ++ (a.cells ++ row.drop (o + a.cells.length))).length = ob.k := by simp; omega
  refine ⟨_, hrun, S.write hg (setCells_wrote b _ _ w) ⟨hO.low, hO.free, fun r' hr' => ?_, by simpa using hO.fits, hO.cmax, vs', ty, fz, h1, by rw [h2]; exact hs, by rw [h2]; exact hz, fun i' r' j a' e1 e2 => ?_⟩⟩
  · rcases List.mem_or_eq_of_mem_set hr' with hr' | rfl
    · exact hO.lenk r' hr'
    · exact hnewlen
  · dsimp only at e1 e2 ⊢
    have hi' : i' < ob.rows.length := by
      have := (List.getElem?_eq_some_iff.1 e1).1
      simpa using this
    have hlt : i' * ob.k + ob.k ≤ vs.size := by
      rw [hs, ← Nat.succ_mul]
      exact Nat.mul_le_mul_right _ (by omega)
    by_cases hii : i = i'
    · subst hii
      rw [List.getElem?_set_self hi] at e1
      injection e1 with e1
      subst e1
      have hj : j < ob.k := by rw [← hnewlen]; exact (List.getElem?_eq_some_iff.1 e2).1
      rw [h3 _ (by omega)]
      rcases Nat.lt_or_ge j o with hjo | hjo
      · rw [if_neg (by omega)]
        rw [List.getElem?_append_left (by simp; omega), List.getElem?_take_of_lt hjo] at e2
        exact hm i row j a' hr e2
      · rw [List.getElem?_append_right (by simp; omega)] at e2
        have hto : (row.take o).length = o := by simp; omega
        rw [hto] at e2
        rcases Nat.lt_or_ge (j - o) a.cells.length with hjn | hjn
        · rw [if_pos (by omega)]
          rw [List.getElem?_append_left hjn] at e2
          have e3 : v.cells.toList[j - o]? = some (v.cells.toList[j - o]'(by omega)) := List.getElem?_eq_getElem _
          refine ⟨plain_one hp _ (List.mem_of_getElem? e2), _, ?_, hcells.2 _ _ _ e2 e3⟩
          rw [show i * ob.k + j - (i * ob.k + o) = j - o by omega]
          exact e3
        · rw [if_neg (by omega)]
          rw [List.getElem?_append_right hjn, List.getElem?_drop] at e2
          have : o + a.cells.length + (j - o - a.cells.length) = j := by omega
          rw [this] at e2
          exact hm i row j a' hr e2
    · rw [List.getElem?_set_ne hii] at e1
      have hj : j < ob.k := by rw [← hO.lenk r' (List.mem_of_getElem? e1)]; exact (List.getElem?_eq_some_iff.1 e2).1
      rw [h3 _ (by omega), if_neg]
      · exact hm i' r' j a' e1 e2
      · rintro ⟨g1, g2⟩
        have ho : o + n ≤ ob.k := by omega
        rcases Nat.lt_or_ge i' i with hlt2 | hge
        · have : (i' + 1) * ob.k ≤ i * ob.k := Nat.mul_le_mul_right _ (by omega)
          rw [Nat.succ_mul] at this
          omega
        · have : (i + 1) * ob.k ≤ i' * ob.k := Nat.mul_le_mul_right _ (by omega)
          rw [Nat.succ_mul] at this
          omega
theorem gdA_ok {a : Act} (R : SlR G sl a.tmps) {j : Nat} {want t : Bool} (e : gdA ops sl j want = some t) (hg : o.guard = some (j, want)) : Region.wanted o (yielded ops a.tmps) = t := by
  unfold Region.wanted
  rw [hg]
  dsimp only
  unfold yielded
  unfold gdA at e
  split at e
  · rename_i d hd
    rw [hd]
    simp only [Option.bind_some, List.getD] at e ⊢
    cases hs : sl[d]? with
    | none => simp [hs] at e
    | some x =>
      obtain ⟨v, h1, h2⟩ := R.2 d x hs
      rw [h1]
      rw [hs, Option.getD_some] at e
      split at e
      · injection e with e
        subst e
        rw [h2.bool_inv]
        dsimp only
        cases want <;> rename_i b <;> cases b <;> rfl
      · rename_i g b
        injection e with e
        subst e
        cases h2 with
        | cndT h2 => rw [h2.bool_inv]; cases want <;> cases b <;> rfl
        | cndF => cases want <;> rfl
      · injection e with e
        subst e
        cases h2
        cases want <;> rfl
      · cases e
  · rename_i hd
    injection e with e
    subst e
    rw [hd]
    cases want <;> rfl
theorem opP_hi {op : Op} {ρ : Operand → AV} {h h' : AH} (hl : ∀ t a, op ≠ .load t a) : opP P op ρ h = opP P op ρ h' := by
  cases op <;> first | rfl | exact absurd rfl (hl _ _) | (unfold opP; split <;> first | rfl | (rename_i e; cases e))
theorem hiK_load {o : Oper} (h : hiK o = true) : ∀ t a, o.op ≠ .load t a := fun t a e => by
  unfold hiK at h
  rw [e] at h
  cases h
theorem AYv.of_opP {ρ : Operand → AV} {r : PV} (he : opP P o.op ρ h = some r) (hs : r.1) : AYv P T o ρ h r.2 := by
  intro G w a S hv Kc Q hK
  obtain ⟨G', v, w', hrun, hG', S', hv'⟩ := opP_ok he hs rfl S hv
  unfold Oper.wp
  rw [hrun]
  exact hK G' v w' hG' S' hv'
theorem DW.val {cp : Bool} {r : PV} (hg : o.guard = none) (he : opP P o.op (ev T sl) h = some r) (hs : r.1) (k : DW P T cp ops rest (putA o.dst r.2 sl) h K X) : DW P T cp ops (o :: rest) sl h K X := by
  unfold DW
  by_cases hb : effK cp o = true
  · rw [if_pos hb]
    exact ⟨hg, fun G w a S hv Kc Q hK _ => AYv.of_opP he hs G w a S hv Kc Q fun G' u w' h1 h2 h3 => hK r.2 h G' u w' k h1 h2 h3⟩
  rw [if_neg hb]
  refine ⟨r.2, ?_, fun hh h' => ?_, k⟩
  · unfold Yg; rw [hg]; exact AYv.of_opP he hs
  · unfold Yg; rw [hg]; exact AYv.of_opP (h := h') (by rw [← he]; exact opP_hi (hiK_load hh)) hs
theorem AYv.of_opG {r : PV} (he : opG P o.op T sl h = some r) (hs : r.1) : AYv P T o (ev T sl) h r.2 := by
  unfold opG at he
  split at he
  · rename_i c x y ho
    injection he with he
    subst he
    exact AYv.of_opP (by rw [ho]; rfl) hs
  · split at he
    · rename_i q hq
      injection he with he
      subst he
      intro G w a S hv Kc Q hK
      obtain ⟨G', v, w', hrun, hG', S', hv'⟩ := opP_ok hq hs.2 rfl S (ec := a.eval) (fun x hx => (hv x hx).strip (okL_mem hs.1 (opL_mem hx)))
      unfold Oper.wp
      rw [hrun]
      exact hK G' v w' hG' S' hv'
    · cases he
theorem opG_hi {op : Op} {h h' : AH} (hl : ∀ t a, op ≠ .load t a) : opG P op T sl h = opG P op T sl h' := by
  unfold opG
  split
  · rfl
  · rw [opP_hi (h' := h') hl]
theorem DW.valG {cp : Bool} {r : PV} {g : Nat × Bool} {t : Bool} (hg : o.guard = some g) (ht : gdA ops sl g.1 g.2 = some t) (he : opG P o.op T sl h = some r) (hs : t = true → r.1) (k : DW P T cp ops rest (putA o.dst (.cnd t r.2) sl) h K X) : DW P T cp ops (o :: rest) sl h K X := by
  unfold DW
  rw [if_neg (by unfold effK; rw [hg]; simp)]
  refine ⟨.cnd t r.2, ?_, fun hh h' => ?_, k⟩
  · unfold Yg; rw [hg]; exact ⟨t, r.2, ht, rfl, fun e => AYv.of_opG he (hs e)⟩
  · unfold Yg; rw [hg]; exact ⟨t, r.2, ht, rfl, fun e => AYv.of_opG (h := h') (by rw [← he]; exact opG_hi (hiK_load hh)) (hs e)⟩
theorem effP_eff {cp : Bool} {e : Eff} (hg : o.guard = none) (he : effP P o.op (ev T sl) h = some e) : effK cp o = true := by
  unfold effK
  rw [hg]
  dsimp only
  unfold effP at he
  split at he <;> first | (rename_i e; rw [e]; done) | skip
  all_goals first | (cases he; done) | (rename_i e; rw [e])
theorem ESt.eff {e : Eff} {N : AV → AH → Prop} (hg : o.guard = none) (he : effP P o.op (ev T sl) h = some e)
    (k : match e with
      | .obj ob => ∀ b, freshL b h.objs → N (.ptr b ob.k 0 0) ⟨(b, ob) :: h.objs, h.live⟩
      | .put objs => N .undef ⟨objs, h.live⟩) : ESt P T o sl h N X := by
  refine ⟨hg, fun G w a S hv Kc Q hK _ => ?_⟩
  have newobj : ∀ (cs : List AV) (vs : List Value) (ty : TypeId), CellsR G cs vs → (∀ x ∈ cs, x.one = true) → Sim T G ⟨(w.heap.size, ⟨cs.length, 1, [cs]⟩) :: h.objs, h.live⟩ (w.alloc (.cells vs.toArray ty)) := fun cs vs ty hc h1 =>
    S.alloc ⟨cs.length, 1, [cs]⟩ vs.toArray ty (0, 0) (by simp) (by simp) (by show 1 ≤ maxLen; decide) (by simp [hc.1]) (fun o _ => by simp) (one_row hc h1)
  unfold effP at he
  split at he
  · rename_i t ho
    split at he <;> try (cases he; done)
    rename_i z hz
    injection he with he
    subst he
    unfold zI at hz
    split at hz <;> try (cases hz; done)
    rename_i zv hzv
    split at hz <;> try (cases hz; done)
    rename_i hone
    injection hz with hz
    subst hz
    obtain ⟨i, hi, hiz⟩ := Option.bind_eq_some_iff.1 hzv
    have S' := newobj (zv.cells.toList.map ofV) zv.cells.toList t (ofV_cells _) (List.all_eq_true.1 hone)
    have hrun : (execOp a.eval o).run P w = .ok (.value (.pointer (some ⟨w.heap.size, 0, none⟩))) (w.alloc (.cells zv.cells t)) := by
      unfold execOp
      simp only [ho]
      simp [Instr.alloc, zeroValue, typeInfo, hi, hiz, newVar, newRow, newObj, Sem.run, program]
    unfold Oper.wp
    rw [hrun]
    have hptr := VR.ptr (G := G) w.heap.size (zv.cells.toList.map ofV).length 0 0
    simp only [Nat.zero_mul, Nat.add_zero] at hptr
    exact hK _ _ G _ _ (k w.heap.size (fresh_new S.fresh)) (Gle.refl G) (by simpa using S') hptr
  · rename_i t x ho
    split at he <;> try (cases he; done)
    rename_i hp
    injection he with he
    subst he
    have hv := hv x (by simp [ho, Op.operands])
    have hc := hv.cells hp
    have S' := newobj _ _ t hc (plain_one hp)
    have hrun : (execOp a.eval o).run P w = .ok (.value (.pointer (some ⟨w.heap.size, 0, none⟩))) (w.alloc (.cells (a.eval x).cells t)) := by
      unfold execOp
      simp only [ho]
      simp [Instr.box, newVar, newRow, newObj, Sem.run]
    unfold Oper.wp
    rw [hrun]
    have hptr := VR.ptr (G := G) w.heap.size (ev T sl x).cells.length 0 0
    simp only [Nat.zero_mul, Nat.add_zero] at hptr
    exact hK _ _ G _ _ (k w.heap.size (fresh_new S.fresh)) (Gle.refl G) (by simpa using S') hptr
  · rename_i t ad v ho
    split at he <;> try (cases he; done)
    rename_i b kk i off r n hptr hty
    split at he <;> try (cases he; done)
    rename_i hc
    split at he <;> try (cases he; done)
    rename_i objs hst
    injection he with he
    subst he
    obtain ⟨w', hrun, S'⟩ := store_ok S hty hc.1 hc.2 (hv v (by simp [ho, Op.operands])) hst
    have had := hv ad (by simp [ho, Op.operands])
    rw [hptr] at had
    have had : a.eval ad = .pointer (some ⟨b, i * kk + off, none⟩) := by
      generalize a.eval ad = z at had
      cases had
      rfl
    have hrun' : (execOp a.eval o).run P w = .ok .skip w' := by
      unfold execOp
      simp only [ho, had, Sem.run_bind, hrun, Result.andThen_ok, Sem.run_pure]
    unfold Oper.wp
    rw [hrun']
    exact hK _ _ G Go.undef w' k (Gle.refl G) S' .undef
  · cases he
theorem lvc_ok {cp : Bool} : ∀ (l : List Oper) (sl : List AV) (h : AH), lvc P T cp ops l sl h K X → DW P T cp ops l sl h K X
  | [], sl, h, H => H
  | o :: rest, sl, h, H => by
    unfold lvc at H
    split at H
    · rename_i hg
      split at H
      · rename_i r hr
        exact DW.val hg hr H.1 (lvc_ok rest _ _ H.2)
      · split at H
        · rename_i ob he
          unfold DW
          rw [if_pos (effP_eff hg he)]
          exact ESt.eff hg he fun b hb => lvc_ok rest _ _ (H b hb)
        · rename_i objs he
          unfold DW
          rw [if_pos (effP_eff hg he)]
          exact ESt.eff hg he (lvc_ok rest _ _ H)
        · exact H
    · rename_i g hg
      split at H
      · rename_i t ht
        split at H
        · rename_i r hr
          exact DW.valG hg ht hr H.1 (lvc_ok rest _ _ H.2)
        · exact H
      · exact H.elim
theorem Yg.run {v : AV} (hy : Yg P T ops o v sl h) {G : Gh} {w : World} {a : Act} (S : Sim T G h w) (R : SlR G sl a.tmps) {Kc : Act → World → Prop} {Q : Exit → Act → World → Prop}
    (hK : ∀ G' u w', Gle G G' → Sim T G' h w' → VR G' v u → Kc (a.put o.dst u) w') : if Region.wanted o (yielded ops a.tmps) = true then o.wp P a w Kc Q else Kc (a.put o.dst Go.undef) w := by
  unfold Yg at hy
  split at hy
  · rename_i hg
    rw [if_pos (by simp [Region.wanted, hg])]
    exact hy G w a S (fun x _ => ev_ok S R x) Kc Q hK
  · rename_i g hg
    obtain ⟨t, v0, ht, rfl, hv⟩ := hy
    rw [gdA_ok R ht hg]
    cases t with
    | true =>
      rw [if_pos rfl]
      exact hv rfl G w a S (fun x _ => ev_ok S R x) Kc Q fun G' u w' h1 h2 h3 => hK G' u w' h1 h2 (.cndT h3)
    | false =>
      rw [if_neg (by simp)]
      exact hK G _ w (Gle.refl G) S (.cndF _)
theorem DW.list {cp : Bool} : ∀ (l : List Oper) (sl : List AV) (h : AH), DW P T cp ops l sl h K X → LV P T ops l sl h K X
  | [], sl, h, H => fun G0 G w a ds hG S R hd => ⟨hd, .normal, sl, h, G, H, trivial, hG, S, R⟩
  | o :: rest, sl, h, H => by
    intro G0 G w a ds hG S R hd
    unfold DW at H
    split at H
    · obtain ⟨hg, H⟩ := H
      refine wpList_plain hg fun K' hK' => H G w a S (fun x _ => ev_ok S R x) K' _ (fun r h' G' u w' hr hG' S' hu => ?_) (fun p h' G' u w' hp hG' S' hu => ?_)
      · exact hK' _ _ (DW.list rest _ _ hr G0 G' w' _ ds (hG.trans hG') S' ((R.mono hG').put hu o.dst) (by rw [put_defers]; exact hd))
      · exact ⟨hd, .pan p, sl, h', G', hp, ⟨u, rfl, hu⟩, hG.trans hG', S', R.mono hG'⟩
    · obtain ⟨v, hy, _, hr⟩ := H
      refine wpList_step fun K' hK' => hy.run S R fun G' u w' hG' S' hu => ?_
      exact hK' _ _ (DW.list rest _ _ hr G0 G' w' _ ds (hG.trans hG') S' ((R.mono hG').put hu o.dst) (by rw [put_defers]; exact hd))
theorem AWp.of_lift {c : Code} {Q : AQ} (H : ∀ (G : Gh) (w : World) (a : Act), Sim T G h w → SlR G sl a.tmps → c.wp P (Lift T (LQ (fun s h => Q .normal s h) (fun p h => ∀ s, Q (.pan p) s h)) G a.defers) a w) : AWp P T c Q sl h := by
  intro G w a S R
  refine wp_mono (H G w a S R) ?_
  rintro e a' w' ⟨hd, x, s, h', G', hq, hx, hG, S', R'⟩
  cases x with
  | normal => exact ⟨hd, .normal, s, h', G', hq, hx, hG, S', R'⟩
  | pan p => exact ⟨hd, .pan p, s, h', G', hq s, hx, hG, S', R'⟩
  | exit i => exact hq.elim
  | ret => exact hq.elim
theorem AWp.reg {id : Nat} {l : List Oper} {Q : AQ} (H : lvc P T false l.toArray l sl h (fun s h => Q .normal s h) (fun p h => ∀ s, Q (.pan p) s h)) : AWp P T (.region id l.toArray false) Q sl h :=
  AWp.of_lift fun G w a S R => wp_region_lit (DW.list l sl h (lvc_ok l sl h H) G G w a a.defers (Gle.refl G) S R rfl)
/-- a region, and what is behind it -/
theorem AWp.rs {id : Nat} {l : List Oper} {y : Code} {Q : AQ} (H : ∀ K : List AV → AH → Prop, (∀ s h, AWp P T y Q s h → K s h) → lvc P T false l.toArray l sl h K (fun p h => ∀ s, Q (.pan p) s h)) : AWp P T (.seq (.region id l.toArray false) y) Q sl h :=
  AWp.seq fun K hK => AWp.reg (H K hK)
/-! calls -/
structure PC (P : Program) (T : Tbl) (f : FuncId) (args : List AV) (r : AV) : Prop where
  call : ∀ as w, (callFunc f as).run P w = .ok (.enter f as) w
  run : PCall P T f args r
structure AC (P : Program) (T : Tbl) (f : FuncId) (args : List AV) (h : AH) (R : AR → AH → Prop) : Prop where
  call : ∀ as w, (callFunc f as).run P w = .ok (.enter f as) w
  run : ACalls P T f args h R
theorem run_call {c : Call} {fo : Operand} {f : FuncId} {cap : List AV} {ρ : Operand → AV} {a : Act} (ho : o.op = .call c) (hc : c.callee = .value fo) (hf : ρ fo = .fn f cap) (hv : ∀ x ∈ o.op.operands.toList, VR G (ρ x) (a.eval x))
    (hcall : ∀ as w, (callFunc f as).run P w = .ok (.enter f as) w) : ∃ vs : Array Value, (execOp a.eval o).run P w = .ok (.enter f vs) w ∧ SlR G (c.args.toList.map ρ ++ cap) vs := by
  have hv' := hv fo (by simp [ho, Op.operands, Call.operands, hc])
  rw [hf] at hv'
  generalize hz : a.eval fo = z at hv'
  cases hv' with
  | fn _ _ us hl hcap =>
    refine ⟨c.args.map a.eval ++ us.toArray, ?_, by simp [hl], fun i x e => ?_⟩
    · unfold execOp
      simp only [ho, resolve, hc, hz, Deferred.ofValue]
      simp [invoke, hcall]
    · rcases Nat.lt_or_ge i c.args.size with hi | hi
      · rw [List.getElem?_append_left (by simpa using hi), List.getElem?_map] at e
        obtain ⟨q, hq, rfl⟩ := Option.map_eq_some_iff.1 e
        refine ⟨a.eval q, ?_, hv q (by
          have := List.mem_of_getElem? hq
          simp [ho, Op.operands, Call.operands, hc]
          exact .inr (by simpa using this))⟩
        rw [Array.getElem?_append_left (by simpa using hi), Array.getElem?_map]
        rw [Array.getElem?_toList] at hq
        rw [hq]
        rfl
      · rw [List.getElem?_append_right (by simpa using hi)] at e
        simp only [List.length_map, Array.length_toList] at e
        have hlt : i - c.args.size < us.length := by rw [hl]; exact (List.getElem?_eq_some_iff.1 e).1
        refine ⟨us[i - c.args.size], ?_, hcap _ _ _ e (List.getElem?_eq_getElem hlt)⟩
        rw [Array.getElem?_append_right (by simpa using hi)]
        simp [hlt]
theorem ESt.ac {c : Call} {fo : Operand} {f : FuncId} {cap : List AV} {R : AR → AH → Prop} {N : AV → AH → Prop} (ho : o.op = .call c) (hg : o.guard = none) (hc : c.callee = .value fo) (hf : ev T sl fo = .fn f cap)
    (C : AC P T f (c.args.toList.map (ev T sl) ++ cap) h R)
    (k : ∀ x h', R x h' → match x with
      | .ret r => N r h'
      | .pan p => X p h') : ESt P T o sl h N X := by
  refine ⟨hg, fun G w a S hv Kc Q hK hX => ?_⟩
  obtain ⟨vs, hrun, hvs⟩ := run_call ho hc hf (a := a) hv C.call
  unfold Oper.wp
  rw [hrun]
  refine (C.run G w vs S hvs).mono ?_
  rintro e w' ⟨x, h', G', hR, hG', S', hx⟩
  have hk := k x h' hR
  cases x with
  | ret r =>
    obtain ⟨v, rfl, hv⟩ := hx
    exact hK r h' G' v w' hk hG' S' hv
  | pan p =>
    obtain ⟨v, rfl, hv⟩ := hx
    exact hX p h' G' v w' hk hG' S' hv
theorem effK_call {c : Call} {fo : Operand} (ho : o.op = .call c) (hg : o.guard = none) (hc : c.callee = .value fo) (cp : Bool) : effK cp o = !cp := by
  unfold effK
  rw [hg, ho]
  obtain ⟨ca, ar, at_⟩ := c
  dsimp only at hc
  subst hc
  rfl
theorem DW.ac {c : Call} {fo : Operand} {f : FuncId} {cap : List AV} {R : AR → AH → Prop} (ho : o.op = .call c) (hg : o.guard = none) (hc : c.callee = .value fo) (hf : ev T sl fo = .fn f cap)
    (C : AC P T f (c.args.toList.map (ev T sl) ++ cap) h R)
    (k : ∀ x h', R x h' → match x with
      | .ret r => lvc P T false ops rest (putA o.dst r sl) h' K X
      | .pan p => X p h') : DW P T false ops (o :: rest) sl h K X := by
  unfold DW
  rw [if_pos (by rw [effK_call ho hg hc false]; rfl)]
  refine ESt.ac ho hg hc hf C fun x h' hR => ?_
  have := k x h' hR
  cases x with
  | ret r => exact lvc_ok rest _ _ this
  | pan p => exact this
theorem AYv.pc {c : Call} {fo : Operand} {f : FuncId} {cap args : List AV} {r : AV} {ρ : Operand → AV} (ho : o.op = .call c) (hc : c.callee = .value fo) (hf : ρ fo = .fn f cap)
    (C : PC P T f args r) (ha : LeL false (c.args.toList.map ρ ++ cap) args) : AYv P T o ρ h r := by
  intro G w a S hv Kc Q hK
  obtain ⟨vs, hrun, hvs⟩ := run_call ho hc hf (a := a) hv C.call
  unfold Oper.wp
  rw [hrun]
  refine ((C.run.acalls (h := h) ha) G w vs S hvs).mono ?_
  rintro e w' ⟨x, h', G', ⟨rfl, rfl, _⟩, hG', S', v, rfl, hv⟩
  exact hK G' v w' hG' S' hv
theorem DW.pc {cp : Bool} {c : Call} {fo : Operand} {f : FuncId} {cap args : List AV} {r : AV} (ho : o.op = .call c) (hg : o.guard = none) (hc : c.callee = .value fo) (hf : ev T sl fo = .fn f cap)
    (C : PC P T f args r) (ha : LeL false (c.args.toList.map (ev T sl) ++ cap) args) (k : lvc P T cp ops rest (putA o.dst r sl) h K X) : DW P T cp ops (o :: rest) sl h K X := by
  have hy : ∀ h, AYv P T o (ev T sl) h r := fun h => AYv.pc ho hc hf C ha
  unfold DW
  rw [effK_call ho hg hc cp]
  cases cp with
  | true =>
    rw [if_neg (by simp)]
    exact ⟨r, by unfold Yg; rw [hg]; exact hy h, fun _ h' => by unfold Yg; rw [hg]; exact hy h', lvc_ok rest _ _ k⟩
  | false =>
    rw [if_pos (by rfl)]
    exact ⟨hg, fun G w a S hv Kc Q hK _ => hy h G w a S hv Kc Q fun G' u w' h1 h2 h3 => hK r h G' u w' (lvc_ok rest _ _ k) h1 h2 h3⟩
theorem DW.pcg {cp : Bool} {c : Call} {fo : Operand} {f : FuncId} {cap args : List AV} {r : AV} {g : Nat × Bool} {t : Bool} (ho : o.op = .call c) (hg : o.guard = some g) (ht : gdA ops sl g.1 g.2 = some t) (hc : c.callee = .value fo) (hf : evs T sl fo = .fn f cap)
    (C : t = true → PC P T f args r) (hok : t = true → okL T sl (fo :: c.args.toList) = true) (ha : LeL false (c.args.toList.map (evs T sl) ++ cap) args) (k : lvc P T cp ops rest (putA o.dst (.cnd t r) sl) h K X) : DW P T cp ops (o :: rest) sl h K X := by
  have hy : t = true → ∀ h, AYv P T o (ev T sl) h r := fun e h => by
    intro G w a S hv Kc Q hK
    refine (AYv.pc (h := h) (ρ := evs T sl) ho hc hf (C e) ha) G w a S (fun x hx => (hv x hx).strip (okL_mem (hok e) ?_)) Kc Q hK
    rw [ho] at hx
    simpa [Op.operands, Call.operands, hc] using hx
  unfold DW
  rw [if_neg (by unfold effK; rw [hg]; simp)]
  exact ⟨.cnd t r, by unfold Yg; rw [hg]; exact ⟨t, r, ht, rfl, fun e => hy e h⟩, fun _ h' => by unfold Yg; rw [hg]; exact ⟨t, r, ht, rfl, fun e => hy e h'⟩, lvc_ok rest _ _ k⟩
end
end Go.Proofs.YtnoboapafndnlaaDoor

/- Abstract values: calls, their contracts, results. -/
import Derived.Test.YtnoboapafndnlaaDoorAvC
namespace Go.Proofs.YtnoboapafndnlaaDoor
open Go.RowKit
set_option linter.unusedSimpArgs false
set_option linter.unusedVariables false

/-- what a call ends in -/
inductive AR where
  | ret (r : AV)
  | pan (p : AV)
def ACalls (P : Program) (T : Tbl) (f : FuncId) (args : List AV) (h : AH) (R : AR → AH → Prop) : Prop :=
  ∀ (G : Gh) (w : World) (vs : Array Value), Sim T G h w → SlR G args vs → Calls P f vs w fun e w' => ∃ x h' G', R x h' ∧ Gle G G' ∧ Sim T G' h' w' ∧
    match x with
    | .ret r => ∃ v, e = .returned v ∧ VR G' r v
    | .pan p => ∃ v, e = .panicked [{ v := v, recovered := false }] ∧ VR G' p v
def Gh.keepT (G : Gh) (kp : Bool) : Gh := { G with tok := if kp = true then G.tok else fun _ => none }
def gh0 (w : World) (F : Frz) : Gh := ⟨w, F, fun _ => none, 0⟩
/-- a call that leaves all memory as it is, but for new blocks; its result holds no permission -/
def PCall (P : Program) (T : Tbl) (f : FuncId) (args : List AV) (r : AV) : Prop :=
  ∀ (F : Frz) (w : World) (vs : Array Value), (∀ b o u, F b o = some u → w.cell? ⟨b, o, none⟩ = some u) → (∀ g j x, (T g)[j]? = some x → ∃ u, F g j = some u ∧ VD F x u) → SlR (gh0 w F) args vs →
    Calls P f vs w fun e w' => ∃ v F', e = .returned v ∧ Below w.heap.size w w' ∧ (∀ b o u, F b o = some u → F' b o = some u) ∧ (∀ b o u, F' b o = some u → F b o = some u ∨ w.heap.size ≤ b) ∧
      (∀ b o u, F' b o = some u → w'.cell? ⟨b, o, none⟩ = some u) ∧ VR (gh0 w F') r v

def LeD : D → D → Prop
  | .slc k rows, .slc k' rows' => rows = rows' ∧ (k = k' ∨ rows = [])
  | x, y => x = y
mutual
/-- the second one says less -/
def LeA (kp : Bool) : AV → AV → Prop
  | .own t k rows, b => match b with
    | .d (.slc k' rows') => rows = rows' ∧ (k = k' ∨ rows = [])
    | .own t' k' rows' => kp = true ∧ t = t' ∧ k = k' ∧ rows = rows'
    | .any => True
    | _ => False
  | .nils, b => match b with
    | .d (.slc _ rows') => rows' = []
    | .nils => True
    | .any => True
    | _ => False
  | .d x, b => match b with
    | .d y => LeD x y
    | .any => True
    | _ => False
  | .agg l, b => match b with
    | .agg l' => LeL kp l l'
    | .any => True
    | _ => False
  | .tup l, b => match b with
    | .tup l' => LeL kp l l'
    | .any => True
    | _ => False
  | .ifc t a, b => match b with
    | .ifc t' a' => t = t' ∧ LeA kp a a'
    | .any => True
    | _ => False
  | .fn f l, b => match b with
    | .fn f' l' => f = f' ∧ LeL kp l l'
    | .any => True
    | _ => False
  | .cnd _ _, b => b = .any
  | a, b => a = b ∨ b = .any
def LeL (kp : Bool) : List AV → List AV → Prop
  | [], [] => True
  | a :: l, b :: l' => LeA kp a b ∧ LeL kp l l'
  | _, _ => False
end
theorem LeL.len {kp : Bool} : ∀ {l l' : List AV}, LeL kp l l' → l.length = l'.length
  | [], [], _ => rfl
  | a :: l, b :: l', h => by simp only [LeL] at h; simp [LeL.len h.2]
  | [], _ :: _, h => by simp [LeL] at h
  | _ :: _, [], h => by simp [LeL] at h
theorem VD.slc_k {F : Frz} {k k' : Nat} {rows : List (List D)} {v : Value} (h : VD F (.slc k rows) v) (hk : k = k' ∨ rows = []) : VD F (.slc k' rows) v := by
  rcases hk with rfl | rfl
  · exact h
  · obtain ⟨A, c, rfl, _, h2, h3, _⟩ := h.slc_inv
    exact .slc0 k' A c h3 h2
theorem LeD.ok {F : Frz} {x y : D} {v : Value} (h : VD F x v) (k : LeD x y) : VD F y v := by
  unfold LeD at k
  split at k
  · obtain ⟨rfl, hk⟩ := k; exact h.slc_k hk
  · subst k; exact h
mutual
theorem LeA.ok {G : Gh} {kp : Bool} : ∀ (a b : AV) (v : Value), LeA kp a b → VR G a v → VR (G.keepT kp) b v
  | .own t k rows, b, v, h, hv => by
    cases hv with
    | own hd ht =>
      unfold LeA at h
      split at h
      · obtain ⟨rfl, hk⟩ := h; exact .d (hd.slc_k hk)
      · obtain ⟨rfl, rfl, rfl, rfl⟩ := h; exact .own hd (by simp only [Gh.keepT, if_pos]; exact ht)
      · exact .any _
      · exact h.elim
  | .nils, b, v, h, hv => by
    cases hv
    unfold LeA at h
    split at h
    · subst h; exact .d (.slc0 _ none 0 (fun _ => rfl) (by decide))
    · exact .nils
    · exact .any _
    · exact h.elim
  | .d x, b, v, h, hv => by
    cases hv with
    | d hd =>
      unfold LeA at h
      split at h
      · exact .d (LeD.ok hd h)
      · exact .any _
      · exact h.elim
  | .agg l, b, v, h, hv => by
    cases hv with
    | agg _ vs hl hc =>
      unfold LeA at h
      split at h
      · exact .agg _ vs (by rw [hl]; exact h.len) (LeL.ok l _ vs hl h hc)
      · exact .any _
      · exact h.elim
  | .tup l, b, v, h, hv => by
    cases hv with
    | tup _ vs hl hc =>
      unfold LeA at h
      split at h
      · exact .tup _ vs (by rw [hl]; exact h.len) (LeL.ok l _ vs hl h hc)
      · exact .any _
      · exact h.elim
  | .fn f l, b, v, h, hv => by
    cases hv with
    | fn _ _ vs hl hc =>
      unfold LeA at h
      split at h
      · obtain ⟨rfl, h⟩ := h; exact .fn _ _ vs (by rw [hl]; exact h.len) (LeL.ok l _ vs hl h hc)
      · exact .any _
      · exact h.elim
  | .ifc t a, b, v, h, hv => by
    cases hv with
    | ifc _ hv =>
      unfold LeA at h
      split at h
      · obtain ⟨rfl, h⟩ := h; exact .ifc _ (LeA.ok a _ _ h hv)
      · exact .any _
      · exact h.elim
  | .cnd g a, b, v, h, hv => by unfold LeA at h; subst h; exact .any _
  | .ptr b' k i o, b, v, h, hv => by unfold LeA at h; rcases h with rfl | rfl; cases hv; exact .ptr ..; exact .any _
  | .elt k rows i o, b, v, h, hv => by
    unfold LeA at h
    rcases h with rfl | rfl
    · cases hv with | elt _ _ _ _ b off val r hr hf hv => exact .elt k rows i o b off val r hr hf hv
    · exact .any _
  | .arr b' k n c, b, v, h, hv => by unfold LeA at h; rcases h with rfl | rfl; cases hv; exact .arr ..; exact .any _
  | .nilf, b, v, h, hv => by unfold LeA at h; rcases h with rfl | rfl; cases hv; exact .nilf; exact .any _
  | .nilp, b, v, h, hv => by unfold LeA at h; rcases h with rfl | rfl; cases hv; exact .nilp; exact .any _
  | .nili, b, v, h, hv => by unfold LeA at h; rcases h with rfl | rfl; cases hv; exact .nili; exact .any _
  | .undef, b, v, h, hv => by unfold LeA at h; rcases h with rfl | rfl; cases hv; exact .undef; exact .any _
  | .any, b, v, h, hv => by unfold LeA at h; rcases h with rfl | rfl <;> exact .any _
theorem LeL.ok {G : Gh} {kp : Bool} : ∀ (l l' : List AV) (vs : List Value), vs.length = l.length → LeL kp l l' → (∀ (i : Nat) (a : AV) (v : Value), l[i]? = some a → vs[i]? = some v → VR G a v) → ∀ (i : Nat) (a : AV) (v : Value), l'[i]? = some a → vs[i]? = some v → VR (G.keepT kp) a v
  | [], [], _, _, _, _ => fun i a v e => by simp at e
  | a :: l, b :: l', u :: us, hl, h, hc => fun i => by
    unfold LeL at h
    cases i with
    | zero =>
      intro x v e1 e2
      simp only [List.getElem?_cons_zero, Option.some.injEq] at e1 e2
      subst e1 e2
      exact LeA.ok a b u h.1 (hc 0 a u rfl rfl)
    | succ i =>
      intro x v e1 e2
      simp only [List.getElem?_cons_succ] at e1 e2
      exact LeL.ok l l' us (by simpa using hl) h.2 (fun i a v e1 e2 => hc (i + 1) a v (by simpa using e1) (by simpa using e2)) i x v e1 e2
  | a :: l, b :: l', [], hl, h, hc => by simp at hl
  | [], _ :: _, _, _, h, _ => by simp [LeL] at h
  | _ :: _, [], _, _, h, _ => by simp [LeL] at h
end

/-- cells of an object -/
def ldA (objs : List (Nat × Ob)) (b k i o n : Nat) : Option (List AV) :=
  match getO b objs with
  | some ob => if ob.k = k ∧ o + n ≤ k then (match ob.rows[i]? with | some r => some ((r.drop o).take n) | none => none) else none
  | none => none
section
variable {P : Program} {T : Tbl} {G : Gh} {h : AH} {w : World}
theorem ldA_ok (S : Sim T G h w) {b k i o n : Nat} {cs : List AV} (e : ldA h.objs b k i o n = some cs) :
    ∃ vs : List Value, w.rangeAt b (i * k + o) vs ∧ vs.length = n ∧ cs.length = n ∧ (∀ a ∈ cs, a.one = true) ∧ ∀ (j : Nat) (a : AV) (v : Value), cs[j]? = some a → vs[j]? = some v → VR G a v := by
  unfold ldA at e
  split at e
  · rename_i ob hg
    split at e
    · rename_i hc
      obtain ⟨rfl, hn⟩ := hc
      split at e
      · rename_i r hr
        injection e with e
        have hO := S.obj _ (getO_mem hg)
        obtain ⟨vs, ty, fz, hh, hs, _, hm⟩ := hO.mem
        have hrl : r.length = ob.k := hO.lenk r (List.mem_of_getElem? hr)
        have hi : i < ob.rows.length := (List.getElem?_eq_some_iff.1 hr).1
        have hcell : ∀ j, j < n → ∃ a v, r[o + j]? = some a ∧ a.one = true ∧ vs[i * ob.k + o + j]? = some v ∧ VR G a v := fun j hj => by
          have ha : r[o + j]? = some (r[o + j]'(by omega)) := List.getElem?_eq_getElem _
          obtain ⟨h1, v, h2, h3⟩ := hm i r (o + j) _ hr ha
          exact ⟨_, v, ha, h1, by rw [Nat.add_assoc]; exact h2, h3⟩
        have hlen : cs.length = n := by rw [← e]; simp; omega
        refine ⟨(List.range n).map fun j => vs.getD (i * ob.k + o + j) Go.undef, fun j v hv => ?_, by simp, hlen, fun a ha => ?_, fun j a v h1 h2 => ?_⟩
        · rw [List.getElem?_map] at hv
          rcases Nat.lt_or_ge j n with hj | hj
          · rw [List.getElem?_range hj, Option.map_some] at hv
            injection hv with hv
            obtain ⟨a, u, _, _, h2, _⟩ := hcell j hj
            rw [cell_of_row _ _ _ vs ty fz hh, ← hv, h2, Array.getD_eq_getD_getElem?, h2]
            rfl
          · rw [List.getElem?_eq_none (by simpa using hj)] at hv; cases hv
        · obtain ⟨j, hj, rfl⟩ := List.getElem_of_mem ha
          obtain ⟨a, u, h1, h2, _⟩ := hcell j (by omega)
          subst e
          have : ((r.drop o).take n)[j]? = some a := by rw [List.getElem?_take_of_lt (by omega), List.getElem?_drop]; exact h1
          rw [List.getElem?_eq_getElem hj] at this
          injection this with this
          rw [this]; exact h2
        · have hj : j < n := by rw [← hlen]; exact (List.getElem?_eq_some_iff.1 h1).1
          obtain ⟨a', u, g1, _, g2, g3⟩ := hcell j hj
          subst e
          rw [List.getElem?_take_of_lt hj, List.getElem?_drop, g1] at h1
          injection h1 with h1
          rw [List.getElem?_map, List.getElem?_range hj, Option.map_some] at h2
          injection h2 with h2
          rw [← h1, ← h2, Array.getD_eq_getD_getElem?, g2]
          exact g3
      · cases e
    · cases e
  · cases e
/-- a value out of abstract cells -/
def ofCellsA (r : Bool) (cs : List AV) : AV := if r then .agg cs else cs.headD .any
theorem ofCellsA_ok {r : Bool} {n : Nat} {cs : List AV} {vs : List Value} (h1 : vs.length = n) (h2 : cs.length = n) (h3 : r = false → n = 1) (h : ∀ (j : Nat) (a : AV) (v : Value), cs[j]? = some a → vs[j]? = some v → VR G a v) : VR G (ofCellsA r cs) (ofCells r vs) := by
  cases r with
  | true => exact .agg cs vs (by omega) h
  | false =>
    have h3 := h3 rfl
    match cs, vs, h1, h2 with
    | [a], [v], _, _ => exact h 0 a v rfl rfl
    | [], _, _, e => simp at e; omega
    | _ :: _ :: _, _, _, e => simp at e; omega
    | [_], [], e, _ => simp at e; omega
    | [_], _ :: _ :: _, e, _ => simp at e; omega
def resA (P : Program) (s : List AV) (h : AH) : ResultVar → Option AV
  | .tmp t => some (s.getD t .undef)
  | .cell p ty => match s.getD p .undef, tyI P ty with
    | .ptr b k i o, some (r, n) => (ldA h.objs b k i o n).map (ofCellsA r)
    | _, _ => none
def resL (P : Program) (s : List AV) (h : AH) : List ResultVar → Option (List AV)
  | [] => some []
  | x :: l => (resA P s h x).bind fun a => (resL P s h l).map (a :: ·)
def resOf (P : Program) (s : List AV) (h : AH) (rs : List ResultVar) : Option AV :=
  (resL P s h rs).map fun | [a] => a | l => .tup l
def resOne (tmps : Array Value) : ResultVar → Sem Value
  | .tmp t => pure (tmps.getD t undef)
  | .cell a t => do loadVar t (← asAddr (tmps.getD a undef))
theorem slot_ok {s : List AV} {tmps : Array Value} (R : SlR G s tmps) (t : Nat) : VR G (s.getD t .undef) (tmps.getD t Go.undef) := by
  simp only [List.getD]
  cases hs : s[t]? with
  | none =>
    have : tmps[t]? = none := Array.getElem?_eq_none (by rw [R.1]; exact List.getElem?_eq_none_iff.1 hs)
    simp only [Option.getD_none, Array.getD_eq_getD_getElem?, this]
    exact .undef
  | some b =>
    obtain ⟨v, h1, h2⟩ := R.2 t b hs
    simpa [Array.getD_eq_getD_getElem?, h1] using h2
theorem resA_ok (S : Sim T G h w) {s : List AV} {tmps : Array Value} (R : SlR G s tmps) {x : ResultVar} {a : AV} (e : resA P s h x = some a) : ∃ v, (resOne tmps x).run P w = .ok v w ∧ VR G a v := by
  cases x with
  | tmp t =>
    simp only [resA, Option.some.injEq] at e
    subst e
    exact ⟨_, rfl, slot_ok R t⟩
  | cell p ty =>
    have hp := slot_ok R p
    simp only [resA] at e
    split at e
    · rename_i b k i o r n hptr hty
      rw [hptr] at hp
      obtain ⟨cs, hcs, rfl⟩ := Option.map_eq_some_iff.1 e
      obtain ⟨vs, h1, h2, h3, _, h4⟩ := ldA_ok S hcs
      obtain ⟨_, _, _, _, _, _, hr1⟩ := tyI_inv hty
      refine ⟨ofCells r vs, ?_, ofCellsA_ok h2 h3 hr1 h4⟩
      have hv : tmps.getD p Go.undef = .pointer (some ⟨b, i * k + o, none⟩) := by
        generalize tmps.getD p Go.undef = v at hp
        cases hp
        rfl
      have hl := run_load_av (P := P) hty h2 h1
      simp only [Instr.loadAt, Instr.sureAddr, Sem.run_bind, Sem.run_pure, Result.andThen_ok] at hl
      simp only [resOne, hv, asAddr, Sem.run_bind, Sem.run_pure, Result.andThen_ok, hl]
    · cases e
theorem resL_ok (S : Sim T G h w) {s : List AV} {tmps : Array Value} (R : SlR G s tmps) : ∀ {l : List ResultVar} {as : List AV}, resL P s h l = some as →
    ∃ vs, (l.mapM (resOne tmps)).run P w = .ok vs w ∧ vs.length = as.length ∧ ∀ (i : Nat) (a : AV) (v : Value), as[i]? = some a → vs[i]? = some v → VR G a v
  | [], as, e => by
    simp only [resL, Option.some.injEq] at e
    subst e
    exact ⟨[], by simp, rfl, fun i a v e => by simp at e⟩
  | x :: l, as, e => by
    simp only [resL, Option.bind_eq_some_iff, Option.map_eq_some_iff] at e
    obtain ⟨a, ha, as', hl, rfl⟩ := e
    obtain ⟨v, h1, h2⟩ := resA_ok S R ha
    obtain ⟨vs, h3, h4, h5⟩ := resL_ok S R hl
    refine ⟨v :: vs, by simp [List.mapM_cons, h1, h3], by simp [h4], fun i b u e1 e2 => ?_⟩
    cases i with
    | zero => simp at e1 e2; subst e1 e2; exact h2
    | succ i => simp at e1 e2; exact h5 i b u e1 e2
theorem resOf_ok (S : Sim T G h w) {s : List AV} {tmps : Array Value} (R : SlR G s tmps) {fn : Func} {r : AV} (e : resOf P s h fn.results.toList = some r) : ∃ v, (results fn tmps).run P w = .ok v w ∧ VR G r v := by
  unfold resOf at e
  obtain ⟨as, ha, hr⟩ := Option.map_eq_some_iff.1 e
  obtain ⟨vs, h1, h2, h3⟩ := resL_ok S R ha
  have hm : (fn.results.mapM (resOne tmps)).run P w = .ok vs.toArray w := by
    rw [Array.mapM_eq_mapM_toList]
    simp [h1]
  have hrun : (results fn tmps).run P w = .ok (if h : vs.toArray.size = 1 then vs.toArray[0] else .tuple vs.toArray) w := by
    change Sem.run P (fn.results.mapM (resOne tmps) >>= fun vs => pure (if h : vs.size = 1 then vs[0] else .tuple vs)) w = _
    rw [Sem.run_bind, hm]
    rfl
  rw [hrun]
  refine ⟨_, rfl, ?_⟩
  clear hrun hm h1
  cases as with
  | nil =>
    cases vs with
    | nil => simp only at hr; subst hr; exact .tup [] [] rfl (by simp)
    | cons => simp at h2
  | cons a as =>
    cases vs with
    | nil => simp at h2
    | cons v vs =>
      cases as with
      | nil =>
        cases vs with
        | nil => simp only at hr; subst hr; exact h3 0 a v rfl rfl
        | cons => simp at h2
      | cons b l =>
        cases vs with
        | nil => simp at h2
        | cons u us =>
          simp only at hr
          subst hr
          have : ¬ (v :: u :: us).toArray.size = 1 := by simp
          rw [dif_neg this]
          exact .tup _ _ h2 h3
end
section
variable {P : Program} {T : Tbl} {f N : Nat} {fn : Func} {c : Code} {args : List AV} {h : AH}
def endQ (P : Program) (rs : Array ResultVar) (R : AR → AH → Prop) : AQ
  | .normal, s, h => ∃ r, resOf P s h rs.toList = some r ∧ ∃ r', LeA true r r' ∧ ∃ n m, R (.ret r') ⟨h.objs.drop n, h.live.drop m⟩
  | .ret, s, h => ∃ r, resOf P s h rs.toList = some r ∧ ∃ r', LeA true r r' ∧ ∃ n m, R (.ret r') ⟨h.objs.drop n, h.live.drop m⟩
  | .pan p, s, h => ∃ n m, R (.pan p) ⟨h.objs.drop n, h.live.drop m⟩
  | .exit _, _, _ => False
theorem SlR.enter {G : Gh} {vs : Array Value} (R : SlR G args vs) (N : Nat) : SlR G (args ++ List.replicate (N - args.length) .undef) (vs ++ Array.replicate (N - vs.size) Go.undef) := by
  refine ⟨by simp [R.1], fun i a e => ?_⟩
  rcases Nat.lt_or_ge i args.length with hi | hi
  · rw [List.getElem?_append_left hi] at e
    obtain ⟨v, h1, h2⟩ := R.2 i a e
    exact ⟨v, by rw [Array.getElem?_append_left (by rw [R.1]; exact hi)]; exact h1, h2⟩
  · rw [List.getElem?_append_right hi, List.getElem?_replicate] at e
    split at e
    · rename_i hlt
      injection e with e
      refine ⟨Go.undef, ?_, by rw [← e]; exact .undef⟩
      rw [Array.getElem?_append_right (by rw [R.1]; exact hi), Array.getElem?_replicate, R.1, if_pos hlt]
    · cases e
theorem SlR.bnd {G : Gh} {vs : Array Value} (R : SlR G args vs) : ∀ a ∈ args, a.bnd := fun a ha => by
  obtain ⟨i, hi, rfl⟩ := List.getElem_of_mem ha
  obtain ⟨v, _, h2⟩ := R.2 i _ (List.getElem?_eq_getElem hi)
  exact h2.bnd
theorem ACalls.enter {R : AR → AH → Prop} (hf : P.funcs[f]? = some fn) (hb : fn.body = some c) (hN : fn.ntmps = N)
    (H : (∀ a ∈ args, a.bnd) → AWp P T c (endQ P fn.results R) (args ++ List.replicate (N - args.length) .undef) h) : ACalls P T f args h R := by
  intro G w vs S Rs
  refine calls_of_wp hf hb ?_
  have hw := H Rs.bnd G w { tmps := vs ++ Array.replicate (fn.ntmps - vs.size) undef, defers := [] } S (by rw [hN]; exact Rs.enter N)
  refine wp_mono hw ?_
  rintro e a w' ⟨hd, x, s, h', G', hq, hx, hG, S', R'⟩
  have hdrop : ∀ n m, Sim T G' ⟨h'.objs.drop n, h'.live.drop m⟩ w' := fun n m => S'.drop (List.drop_sublist ..) (List.drop_sublist ..)
  have hret : (∃ r, resOf P s h' fn.results.toList = some r ∧ ∃ r', LeA true r r' ∧ ∃ n m, R (.ret r') ⟨h'.objs.drop n, h'.live.drop m⟩) → ∃ v, (results fn a.tmps).run P w' = .ok v w' ∧ (∃ x h' G', R x h' ∧ Gle G G' ∧ Sim T G' h' w' ∧ match x with
      | .ret r => ∃ u, Ending.returned v = .returned u ∧ VR G' r u
      | .pan p => ∃ u, Ending.returned v = .panicked [{ v := u, recovered := false }] ∧ VR G' p u) := by
    rintro ⟨r, hr, r', hle, n, m, hR⟩
    obtain ⟨v, h1, h2⟩ := resOf_ok S' R' hr
    exact ⟨v, h1, _, _, G', hR, hG, hdrop n m, v, rfl, LeA.ok r r' v hle h2⟩
  cases x with
  | normal =>
    cases e <;> simp only [ExR] at hx
    obtain ⟨v, h1, h2⟩ := hret hq
    exact ⟨hd, v, h1, h2⟩
  | ret =>
    cases e <;> simp only [ExR] at hx
    obtain ⟨v, h1, h2⟩ := hret hq
    exact ⟨hd, v, h1, h2⟩
  | exit i => exact hq.elim
  | pan p =>
    cases e <;> simp only [ExR] at hx
    obtain ⟨v, rfl, hv⟩ := hx
    obtain ⟨n, m, hR⟩ := hq
    exact ⟨hd, _, _, G', hR, hG, hdrop n m, v, rfl, hv⟩
def pureQ (P : Program) (rs : Array ResultVar) (r' : AV) : AQ
  | .normal, s, h => ∃ r, resOf P s h rs.toList = some r ∧ LeA false r r'
  | .ret, s, h => ∃ r, resOf P s h rs.toList = some r ∧ LeA false r r'
  | _, _, _ => False
theorem PCall.enter {r : AV} (hf : P.funcs[f]? = some fn) (hb : fn.body = some c) (hN : fn.ntmps = N)
    (H : (∀ a ∈ args, a.bnd) → AWp P T c (pureQ P fn.results r) (args ++ List.replicate (N - args.length) .undef) ⟨[], []⟩) : PCall P T f args r := by
  intro F w vs hF hT Rs
  refine calls_of_wp hf hb ?_
  have S : Sim T (gh0 w F) ⟨[], []⟩ w := ⟨Below.refl _ _, hT, hF, fun _ _ => rfl, by simp, by simp, by simp, by simp, by simp, by simp⟩
  have hw := H Rs.bnd (gh0 w F) w { tmps := vs ++ Array.replicate (fn.ntmps - vs.size) undef, defers := [] } S (by rw [hN]; exact Rs.enter N)
  refine wp_mono hw ?_
  rintro e a w' ⟨hd, x, s, h', G', hq, hx, hG, S', R'⟩
  have hret : (∃ r', resOf P s h' fn.results.toList = some r' ∧ LeA false r' r) → ∃ v, (results fn a.tmps).run P w' = .ok v w' ∧ (∃ u F', Ending.returned v = .returned u ∧ Below w.heap.size w w' ∧ (∀ b o u, F b o = some u → F' b o = some u) ∧ (∀ b o u, F' b o = some u → F b o = some u ∨ w.heap.size ≤ b) ∧
      (∀ b o u, F' b o = some u → w'.cell? ⟨b, o, none⟩ = some u) ∧ VR (gh0 w F') r u) := by
    rintro ⟨r', hr, hle⟩
    obtain ⟨v, h1, h2⟩ := resOf_ok S' R' hr
    refine ⟨v, h1, v, G'.frz, rfl, ?_, hG.frz, hG.new, S'.frz, ?_⟩
    · have := S'.below; rw [hG.base] at this; exact this
    · have := LeA.ok r' r v hle h2
      exact this.mono2 (G := G'.keepT false) (G' := gh0 w G'.frz) (fun _ _ _ e => e) (fun t x e => by simp [Gh.keepT] at e)
  cases x with
  | normal =>
    cases e <;> simp only [ExR] at hx
    obtain ⟨v, h1, h2⟩ := hret hq
    exact ⟨hd, v, h1, h2⟩
  | ret =>
    cases e <;> simp only [ExR] at hx
    obtain ⟨v, h1, h2⟩ := hret hq
    exact ⟨hd, v, h1, h2⟩
  | exit i => exact hq.elim
  | pan p => exact hq.elim
theorem PCall.acalls {args' : List AV} {r : AV} (c : PCall P T f args' r) (hle : LeL false args args') : ACalls P T f args h fun x h' => x = .ret r ∧ h' = h ∧ r.bnd := by
  intro G w vs S Rs
  have hR : SlR (gh0 w G.frz) args' vs := by
    refine ⟨by rw [Rs.1]; exact hle.len, fun i a e => ?_⟩
    have hi : i < vs.size := by rw [Rs.1, hle.len]; exact (List.getElem?_eq_some_iff.1 e).1
    refine ⟨vs[i], Array.getElem?_eq_getElem hi, ?_⟩
    have := LeL.ok (G := G) args args' vs.toList (by simpa using Rs.1) hle (fun i a v e1 e2 => by
      obtain ⟨u, h1, h2⟩ := Rs.2 i a e1
      rw [Array.getElem?_toList] at e2
      rw [h1] at e2
      injection e2 with e2
      rw [← e2]; exact h2) i a vs[i] e (by rw [Array.getElem?_toList]; exact Array.getElem?_eq_getElem hi)
    exact this.mono2 (G := G.keepT false) (G' := gh0 w G.frz) (fun _ _ _ e => e) (fun t x e => by simp [Gh.keepT] at e)
  refine (c G.frz w vs S.frz S.glob hR).mono ?_
  rintro e w' ⟨v, F', rfl, hb, h1, h2, h3, hv⟩
  let G1 : Gh := { G with frz := F' }
  have hG : Gle G G1 := ⟨rfl, h1, fun b o u e => (h2 b o u e).imp_right (fun hb => Nat.le_trans S.below.size hb), fun _ _ e => e⟩
  have hv1 : VR G1 r v := hv.mono2 (G := gh0 w F') (G' := G1) (fun _ _ _ e => e) (fun t x e => by simp [gh0] at e)
  exact ⟨.ret r, h, G1, ⟨rfl, rfl, hv1.bnd⟩, hG, S.grow hb hG S.fin h2 h3, v, rfl, hv1⟩
theorem ACalls.mono {R R' : AR → AH → Prop} (H : ACalls P T f args h R) (hR : ∀ x h, R x h → R' x h) : ACalls P T f args h R' :=
  fun G w vs S Rs => (H G w vs S Rs).mono fun e w' ⟨x, h', G', hr, rest⟩ => ⟨x, h', G', hR _ _ hr, rest⟩
end
end Go.Proofs.YtnoboapafndnlaaDoor

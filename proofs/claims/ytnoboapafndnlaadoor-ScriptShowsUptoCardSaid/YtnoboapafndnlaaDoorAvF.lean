/- Abstract values: struct and slice literals, reslicing, conversions, equality of structs. -/
import Derived.Test.YtnoboapafndnlaaDoorAvE
import Derived.Laws.BytesString
namespace Go.Proofs.YtnoboapafndnlaaDoor
open Go.RowKit
set_option linter.unusedSimpArgs false
set_option linter.unusedVariables false

/-- struct and array literals: the zero cells, and where each part lies -/
def bdI (P : Program) (t : TypeId) : Option (List AV × List (Nat × Nat)) :=
  match (P.info? t).bind (·.zero), P.underlying t with
  | some z, some (.struct fs) => match fs.toList.mapM (fun f => (P.info? f.type).map fun i => (f.offset, i.size)) with
    | some pl => some (z.cells.toList.map ofV, pl)
    | none => none
  | some z, some (.array n e) => match P.info? e with
    | some i => some (z.cells.toList.map ofV, (List.range n).map fun j => (j * i.size, i.size))
    | none => none
  | _, _ => none
def AV.cells : AV → List AV
  | .agg l => l
  | a => [a]
def AV.plain : AV → Bool
  | .agg l => l.all AV.one
  | a => a.one
def fillA (pl : List (Nat × Nat)) (cs : List AV) : List (Nat × AV) → Option (List AV)
  | [] => some cs
  | (i, a) :: r => match pl[i]? with
    | some (off, n) => if a.plain = true ∧ a.cells.length = n ∧ off + n ≤ cs.length then fillA pl (cs.take off ++ (a.cells ++ cs.drop (off + n))) r else none
    | none => none
def buildP (P : Program) (t : TypeId) (ps : List (Nat × AV)) : PV :=
  match bdI P t with
  | some (z, pl) => match fillA pl z ps with
    | some cs => (True, .agg cs)
    | none => koP
  | none => koP
/-- cells as data -/
def toD : AV → Option D
  | .d x => some x
  | .own _ k rows => some (.slc k rows)
  | .nils => some (.slc 0 [])
  | _ => none
def toDs : List AV → Option (List D)
  | [] => some []
  | a :: r => match toD a, toDs r with
    | some x, some l => some (x :: l)
    | _, _ => none
def rowsOf (k : Nat) : Nat → List (Nat × AV) → Option (List (List D))
  | _, [] => some []
  | i, (j, a) :: r => if j = i ∧ a.cells.length = k then (match toDs a.cells, rowsOf k (i + 1) r with
    | some x, some l => some (x :: l)
    | _, _ => none) else none
def buildSliceP (P : Program) (t : TypeId) (len : Nat) (ps : List (Nat × AV)) : PV :=
  match slI P t with
  | some (_, k, _) => match rowsOf k 0 ps with
    | some rows => (ps.length = len ∧ len * k ≤ 16777216, .d (.slc k rows))
    | none => koP
  | none => koP
def optI : Option AV → Option (Option Int)
  | none => some none
  | some (.d (.int _ n)) => some (some n)
  | _ => none
def cutP (k : Nat) (rows : List (List D)) (lo hi mx : Option Int) : PV :=
  match mx with
  | none => (0 ≤ lo.getD 0 ∧ lo.getD 0 ≤ hi.getD rows.length ∧ hi.getD rows.length ≤ rows.length, .d (.slc k ((rows.take (hi.getD rows.length).toNat).drop (lo.getD 0).toNat)))
  | some m => (hi.isSome = true ∧ 0 ≤ lo.getD 0 ∧ lo.getD 0 ≤ hi.getD 0 ∧ hi.getD 0 ≤ m ∧ m ≤ rows.length, .d (.slc k ((rows.take (hi.getD 0).toNat).drop (lo.getD 0).toNat)))
def sliceP (P : Program) (t : TypeId) (a : AV) (lo hi mx : Option AV) : PV :=
  match optI lo, optI hi, optI mx with
  | some lo, some hi, some mx => match a with
    | .d (.str s) => (isStr P t = true ∧ mx = none ∧ 0 ≤ lo.getD 0 ∧ lo.getD 0 ≤ hi.getD s.length ∧ hi.getD s.length ≤ s.length, .d (.str ((s.take (hi.getD s.length).toNat).drop (lo.getD 0).toNat)))
    | .d (.slc k rows) => match slI P t with
      | some (_, s, _) => ((s = k ∨ rows = []) ∧ (cutP k rows lo hi mx).1, (cutP k rows lo hi mx).2)
      | none => koP
    | .own _ k rows => match slI P t with
      | some (_, s, _) => ((s = k ∨ rows = []) ∧ (cutP k rows lo hi mx).1, (cutP k rows lo hi mx).2)
      | none => koP
    | .elt k rows i o => match arI P t with
      | some (n, s, r) => (lo = none ∧ hi = none ∧ mx = none ∧ o = 0 ∧ s = 1 ∧ n = (rows.getD i []).length ∧ 0 < n ∧ n ≤ 1000, .d (.slc 1 ((rows.getD i []).map fun x => [x])))
      | none => koP
    | _ => koP
  | _, _, _ => koP
def intI (P : Program) (t : TypeId) : Option IntKind := match P.underlying t with | some (.int k) => some k | _ => none
/-- bytes as rows, rows as bytes -/
def byteRows (s : List UInt8) : List (List D) := s.map fun c => [.int .u8 c.toNat]
def byteOf : List D → Option UInt8
  | [.int .u8 n] => if 0 ≤ n ∧ n ≤ 255 then some (UInt8.ofNat n.toNat) else none
  | _ => none
def bytesOf : List (List D) → Option (List UInt8)
  | [] => some []
  | r :: l => match byteOf r, bytesOf l with
    | some c, some s => some (c :: s)
    | _, _ => none
theorem bytesOf_byteRows : ∀ s : List UInt8, bytesOf (byteRows s) = some s
  | [] => rfl
  | c :: s => by
    have h1 : byteOf [D.int .u8 (c.toNat : Int)] = some c := by
      have := c.toNat_lt
      simp [byteOf]
      omega
    show (match byteOf [D.int .u8 (c.toNat : Int)], bytesOf (byteRows s) with | some c, some s => some (c :: s) | _, _ => none) = _
    rw [h1, bytesOf_byteRows s]
def isBytes (P : Program) (t : TypeId) : Bool :=
  match slI P t with
  | some (e, s, _) => intI P e == some .u8 && s == 1
  | none => false
def convP (P : Program) (s d : TypeId) (a : AV) : PV :=
  match a with
  | .d (.int _ n) => match intI P d with
    | some k => (True, .d (.int k (k.wrap n)))
    | none => koP
  | .d (.str l) => if isStr P s = true ∧ isStr P d = true then (True, .d (.str l)) else (isStr P s = true ∧ isBytes P d = true, .d (.slc 1 (byteRows l)))
  | .d (.slc k rows) => match bytesOf rows with
    | some l => (isBytes P s = true ∧ isStr P d = true ∧ (k = 1 ∨ rows = []), .d (.str l))
    | none => koP
  | .own _ k rows => match bytesOf rows with
    | some l => (isBytes P s = true ∧ isStr P d = true ∧ (k = 1 ∨ rows = []), .d (.str l))
    | none => koP
  | .nils => (isBytes P s = true ∧ isStr P d = true, .d (.str []))
  | _ => koP
def ifaceP (P : Program) (t : TypeId) (a : AV) : PV := ((P.underlying t).isSome = true ∧ isIf P t = false, .ifc t a)
section
variable {P : Program} {T : Tbl} {G : Gh} {h : AH} {w : World} {a b c : AV} {u v x : Value}
theorem ifaceP_ok {t : Nat} (S : Sim T G h w) (hs : (ifaceP P t a).1) (ha : VR G a u) : PR T G h (ifaceP P t a).2 ((Instr.makeInterface t u >>= fun z => pure (Next.value z)).run P w) := by
  obtain ⟨h1, h2⟩ := hs
  obtain ⟨d, hd⟩ := Option.isSome_iff_exists.1 h1
  refine ⟨G, .iface t u, w, ?_, Gle.refl G, S, .ifc t ha⟩
  unfold isIf at h2
  rw [hd] at h2
  simp only [Instr.makeInterface, Sem.run_bind, run_underlying hd, Result.andThen_ok]
  cases d <;> first | rfl | cases h2
/-- cells of a literal -/
def CellsR (G : Gh) (cs : List AV) (vs : List Value) : Prop := vs.length = cs.length ∧ ∀ (i : Nat) (a : AV) (v : Value), cs[i]? = some a → vs[i]? = some v → VR G a v
theorem VR.cells (hp : a.plain = true) (ha : VR G a v) : CellsR G a.cells v.cells.toList := by
  cases ha with
  | agg l vs hl hc => exact ⟨hl, hc⟩
  | tup | cndT | cndF | undef | any => simp [AV.plain, AV.one] at hp
  | d hd => exact ⟨by cases hd <;> rfl, fun i a v h1 h2 => by
      cases hd <;> (cases i <;> simp [AV.cells, Value.cells] at h1 h2 <;> (obtain rfl := h1; obtain rfl := h2; first | exact .d (.int ..) | exact .d (.bool ..) | exact .d (.str _ (by assumption)) | exact .d (.slc0 _ _ _ (by assumption) (by assumption)) | exact .d (.slc _ _ _ _ _ _ (by assumption) (by assumption) (by assumption) (by assumption) (by assumption) (by assumption))))⟩
  | own hd ht => exact ⟨by cases hd <;> rfl, fun i a v h1 h2 => by
      cases hd <;> (cases i <;> simp [AV.cells, Value.cells] at h1 h2 <;> (obtain rfl := h1; obtain rfl := h2; first | exact .own (.slc0 _ _ _ (by assumption) (by assumption)) ht | exact .own (.slc _ _ _ _ _ _ (by assumption) (by assumption) (by assumption) (by assumption) (by assumption) (by assumption)) ht))⟩
  | elt k rows i o b off val r hr hf hv => exact ⟨rfl, fun i a v h1 h2 => by
      cases i <;> simp [AV.cells, Value.cells] at h1 h2
      obtain rfl := h1; obtain rfl := h2
      exact .elt _ _ _ _ b off val r hr hf hv⟩
  | fn f cap vs hl hc => exact ⟨rfl, fun i a v h1 h2 => by
      cases i <;> simp [AV.cells, Value.cells] at h1 h2
      obtain rfl := h1; obtain rfl := h2
      exact .fn f cap vs hl hc⟩
  | ifc t hh => exact ⟨rfl, fun i a v h1 h2 => by
      cases i <;> simp [AV.cells, Value.cells] at h1 h2
      obtain rfl := h1; obtain rfl := h2
      exact .ifc t hh⟩
  | nils => exact ⟨rfl, fun i a v h1 h2 => by cases i <;> simp [AV.cells, Value.cells] at h1 h2; obtain rfl := h1; obtain rfl := h2; exact .nils⟩
  | ptr => exact ⟨rfl, fun i a v h1 h2 => by cases i <;> simp [AV.cells, Value.cells] at h1 h2; obtain rfl := h1; obtain rfl := h2; exact .ptr ..⟩
  | arr => exact ⟨rfl, fun i a v h1 h2 => by cases i <;> simp [AV.cells, Value.cells] at h1 h2; obtain rfl := h1; obtain rfl := h2; exact .arr ..⟩
  | nilf => exact ⟨rfl, fun i a v h1 h2 => by cases i <;> simp [AV.cells, Value.cells] at h1 h2; obtain rfl := h1; obtain rfl := h2; exact .nilf⟩
  | nilp => exact ⟨rfl, fun i a v h1 h2 => by cases i <;> simp [AV.cells, Value.cells] at h1 h2; obtain rfl := h1; obtain rfl := h2; exact .nilp⟩
  | nili => exact ⟨rfl, fun i a v h1 h2 => by cases i <;> simp [AV.cells, Value.cells] at h1 h2; obtain rfl := h1; obtain rfl := h2; exact .nili⟩
theorem take_set_succ {α : Type} (l : List α) (i : Nat) (c : α) (h : i < l.length) : (l.set i c).take (i + 1) = l.take i ++ [c] := by
  rw [List.take_add_one, List.getElem?_set_self h, List.take_set_of_le (Nat.le_refl _)]
  rfl
theorem foldl_set (new : List Value) : ∀ (k off : Nat) (cs : Array Value), off + k + new.length ≤ cs.size →
    ((new.zipIdx k).foldl (fun cs (c, j) => cs.setIfInBounds (off + j) c) cs).toList = cs.toList.take (off + k) ++ (new ++ cs.toList.drop (off + k + new.length)) := by
  induction new with
  | nil => intro k off cs _; simp
  | cons c new ih =>
    intro k off cs hl
    simp only [List.length_cons] at hl
    rw [List.zipIdx_cons, List.foldl_cons, ih (k + 1) off _ (by simp; omega)]
    simp only [Array.toList_setIfInBounds]
    have h1 : off + (k + 1) = off + k + 1 := by omega
    have hlt : off + k < cs.toList.length := by rw [Array.length_toList]; omega
    rw [h1, take_set_succ _ _ _ hlt, List.drop_set_of_lt (by omega), List.append_assoc]
    have h2 : off + k + (c :: new).length = off + k + 1 + new.length := by simp only [List.length_cons]; omega
    rw [h2]
    rfl
theorem CellsR.fill {cs ns : List AV} {vs us : List Value} {off : Nat} (h1 : CellsR G cs vs) (h2 : CellsR G ns us) (hl : off + ns.length ≤ cs.length) : CellsR G (cs.take off ++ (ns ++ cs.drop (off + ns.length))) (vs.take off ++ (us ++ vs.drop (off + us.length))) := by
  obtain ⟨e1, r1⟩ := h1
  obtain ⟨e2, r2⟩ := h2
  refine ⟨by simp; omega, fun i a v ha hv => ?_⟩
  have t1 : (cs.take off).length = off := by simp; omega
  have t2 : (vs.take off).length = off := by simp; omega
  rcases Nat.lt_or_ge i off with hi | hi
  · rw [List.getElem?_append_left (by omega), List.getElem?_take_of_lt hi] at ha hv
    exact r1 i a v ha hv
  · rw [List.getElem?_append_right (by omega)] at ha hv
    rw [t1] at ha
    rw [t2] at hv
    rcases Nat.lt_or_ge (i - off) ns.length with hj | hj
    · rw [List.getElem?_append_left (by omega)] at ha hv
      exact r2 _ a v ha hv
    · rw [List.getElem?_append_right (by omega), List.getElem?_drop] at ha hv
      rw [e2] at hv
      exact r1 _ a v ha hv
theorem fillA_ok {pl : List (Nat × Nat)} {place : Nat → Option (Nat × Nat)} (hpl : ∀ i x, pl[i]? = some x → place i = some x) :
    ∀ (ps : List (Nat × AV)) (qs : List (Nat × Value)) (cs : List AV) (vs : Array Value) (cs' : List AV), CellsR G cs vs.toList → qs.length = ps.length → (∀ (i : Nat) (p : Nat × AV) (q : Nat × Value), ps[i]? = some p → qs[i]? = some q → p.1 = q.1 ∧ VR G p.2 q.2) →
      fillA pl cs ps = some cs' → ∃ vs', Instr.fill place vs qs = some vs' ∧ CellsR G cs' vs'.toList
  | [], [], cs, vs, cs', hc, _, _, e => by simp [fillA] at e; subst e; exact ⟨vs, rfl, hc⟩
  | (i, a) :: ps, (j, v) :: qs, cs, vs, cs', hc, hl, hp, e => by
    obtain ⟨h0, hv⟩ := hp 0 _ _ rfl rfl
    dsimp only at h0 hv
    subst h0
    unfold fillA at e
    split at e
    · rename_i off n hpli
      split at e
      · rename_i hcond
        obtain ⟨hpl1, hn, hfit⟩ := hcond
        have hcells := hv.cells hpl1
        have hsz : v.cells.size = n := by rw [← hn, ← hcells.1]; simp
        have hvs : vs.size = cs.length := by rw [← hc.1]; simp
        have hnew := CellsR.fill (off := off) hc hcells (by omega)
        obtain ⟨vs', h1, h2⟩ := fillA_ok hpl ps qs _ (v.cells.zipIdx.foldl (fun cs (c, j) => cs.setIfInBounds (off + j) c) vs) cs' (by
            have := foldl_set v.cells.toList 0 off vs (by simp; omega)
            rw [← Array.foldl_toList, Array.toList_zipIdx, this]
            simpa [hn] using hnew) (by simpa using hl) (fun i p q h1 h2 => hp (i + 1) p q (by simpa using h1) (by simpa using h2)) e
        refine ⟨vs', ?_, h2⟩
        simp only [Instr.fill, hpl i _ hpli]
        rw [if_neg (by simp [hsz]; omega)]
        exact h1
      · cases e
    · cases e
  | [], _ :: _, _, _, _, _, hl, _, _ => by simp at hl
  | _ :: _, [], _, _, _, _, hl, _, _ => by simp at hl
theorem ofV_cells (cs : List Value) : CellsR G (cs.map ofV) cs := ⟨by simp, fun i a v h1 h2 => by
  rw [List.getElem?_map, h2, Option.map_some] at h1
  injection h1 with h1
  rw [← h1]
  exact VR.ofV G v⟩
theorem mapM_info {P : Program} {w : World} : ∀ (l : List Field) (pl : List (Nat × Nat)), l.mapM (fun f => (P.info? f.type).map fun i => (f.offset, i.size)) = some pl →
    (l.mapM fun f => do pure (f.offset, ← sizeOf f.type) : Sem _).run P w = .ok pl w
  | [], pl, e => by simp at e; subst e; simp
  | f :: l, pl, e => by
    rw [List.mapM_cons] at e
    simp only [Option.bind_eq_bind, Option.bind_eq_some_iff, Option.map_eq_some_iff, Option.pure_def, Option.some.injEq] at e
    obtain ⟨_, ⟨i, hi, rfl⟩, pl', hl, rfl⟩ := e
    have := mapM_info (w := w) l pl' hl
    simp only [List.mapM_cons, Sem.run_bind, run_sizeOf hi, Result.andThen_ok, Sem.run_pure, this, bind_assoc, pure_bind]
theorem buildP_ok {t : Nat} {ps : List (Nat × AV)} {qs : List (Nat × Value)} (S : Sim T G h w) (hs : (buildP P t ps).1) (hl : qs.length = ps.length)
    (hp : ∀ (i : Nat) (p : Nat × AV) (q : Nat × Value), ps[i]? = some p → qs[i]? = some q → p.1 = q.1 ∧ VR G p.2 q.2) : PR T G h (buildP P t ps).2 ((Instr.build t qs.toArray >>= fun z => pure (Next.value z)).run P w) := by
  unfold buildP at hs ⊢
  split at hs <;> try exact hs.elim
  rename_i z pl hb
  split at hs <;> try exact hs.elim
  rename_i cs hfill
  unfold bdI at hb
  split at hb
  · rename_i zv fs hz hu
    split at hb
    · rename_i pl' hpl
      simp only [Option.some.injEq, Prod.mk.injEq] at hb
      obtain ⟨rfl, rfl⟩ := hb
      obtain ⟨i, hi, hiz⟩ := Option.bind_eq_some_iff.1 hz
      obtain ⟨vs', h1, h2⟩ := fillA_ok (place := fun i => pl'.toArray[i]?) (fun i x e => by simpa using e) ps qs _ zv.cells cs (ofV_cells _) hl hp hfill
      refine ⟨G, .agg vs', w, ?_, Gle.refl G, S, ?_⟩
      · have hm : (fs.mapM fun f => do pure (f.offset, ← sizeOf f.type) : Sem _).run P w = .ok pl'.toArray w := by
          rw [Array.mapM_eq_mapM_toList, Sem.run_map, mapM_info _ _ hpl]
          rfl
        have hm' : (fs.mapM fun f => Prod.mk f.offset <$> sizeOf f.type : Sem _).run P w = .ok pl'.toArray w := by simpa using hm
        simp only [Instr.build, zeroValue, typeInfo, Sem.run_bind, Sem.run_pure, Result.andThen_ok, run_underlying hu, hm, bind_assoc, pure_bind]
        have h1' : Instr.fill (fun x => pl'[x]?) zv.cells qs = some vs' := by simpa using h1
        simp [program, Sem.run, hi, hiz, hm', run_underlying hu, h1']
      · have := VR.agg (G := G) cs vs'.toList h2.1 h2.2
        simpa using this
    · cases hb
  · rename_i zv n e hz hu
    split at hb
    · rename_i ie hie
      simp only [Option.some.injEq, Prod.mk.injEq] at hb
      obtain ⟨rfl, rfl⟩ := hb
      obtain ⟨i, hi, hiz⟩ := Option.bind_eq_some_iff.1 hz
      obtain ⟨vs', h1, h2⟩ := fillA_ok (place := fun i => some (i * ie.size, ie.size)) (fun i x e => by
        rw [List.getElem?_map] at e
        obtain ⟨j, hj, rfl⟩ := Option.map_eq_some_iff.1 e
        obtain ⟨hlt, hj⟩ := List.getElem?_eq_some_iff.1 hj
        simp at hj
        subst hj
        rfl) ps qs _ zv.cells cs (ofV_cells _) hl hp hfill
      refine ⟨G, .agg vs', w, ?_, Gle.refl G, S, ?_⟩
      · simp only [Instr.build, zeroValue, typeInfo, Sem.run_bind, Sem.run_pure, Result.andThen_ok, run_underlying hu, bind_assoc, pure_bind]
        simp [program, Sem.run, hi, hiz, run_sizeOf hie, run_underlying hu, h1]
      · have := VR.agg (G := G) cs vs'.toList h2.1 h2.2
        simpa using this
    · cases hb
  · cases hb
end
end Go.Proofs.YtnoboapafndnlaaDoor

/- Abstract values: slice literals, reslicing, conversions, equality of structs (soundness). -/
import Derived.Test.YtnoboapafndnlaaDoorAvF
import Derived.Laws.StructEq
import Derived.Lib.Strings
import Derived.Laws.IdiomStrings
namespace Go.Proofs.YtnoboapafndnlaaDoor
open Go.RowKit
set_option linter.unusedSimpArgs false
set_option linter.unusedVariables false

section
variable {P : Program} {T : Tbl} {G : Gh} {h : AH} {w : World} {a b c : AV} {u v x : Value}
theorem toD_ok {d : D} (e : toD a = some d) (ha : VR G a v) : VD G.frz d v := by
  unfold toD at e
  split at e
  · injection e with e; subst e; cases ha; assumption
  · injection e with e; subst e; cases ha with | own hd ht => exact hd
  · injection e with e; subst e; cases ha; exact .slc0 0 none 0 (fun _ => rfl) (by decide)
  · cases e
theorem toDs_ok : ∀ {cs : List AV} {ds : List D} {vs : List Value}, toDs cs = some ds → CellsR G cs vs → ds.length = cs.length ∧ ∀ (j : Nat) (d : D) (v : Value), ds[j]? = some d → vs[j]? = some v → VD G.frz d v
  | [], ds, vs, e, _ => by simp [toDs] at e; subst e; exact ⟨rfl, fun j d v h => by simp at h⟩
  | a :: cs, ds, [], e, hc => by have := hc.1; simp at this
  | a :: cs, ds, v :: vs, e, hc => by
    unfold toDs at e
    split at e
    · rename_i x l hx hl
      injection e with e
      subst e
      obtain ⟨h1, h2⟩ := toDs_ok hl (vs := vs) ⟨by have := hc.1; simpa using this, fun i a v e1 e2 => hc.2 (i + 1) a v (by simpa using e1) (by simpa using e2)⟩
      refine ⟨by simp [h1], fun j d u e1 e2 => ?_⟩
      cases j with
      | zero => simp at e1 e2; subst e1 e2; exact toD_ok hx (hc.2 0 a v rfl rfl)
      | succ j => simp at e1 e2; exact h2 j d u e1 e2
    · cases e
theorem toDs_plain : ∀ {cs : List AV} {ds : List D}, toDs cs = some ds → ∀ a ∈ cs, a.one = true
  | [], _, _ => by simp
  | a :: cs, ds, e => by
    unfold toDs at e
    split at e
    · rename_i x l hx hl
      intro b hb
      rcases List.mem_cons.1 hb with rfl | hb
      · unfold toD at hx; split at hx <;> first | rfl | cases hx
      · exact toDs_plain hl b hb
    · cases e
/-- the cells of a slice literal -/
theorem rows_fill {k : Nat} : ∀ (ps : List (Nat × AV)) (qs : List (Nat × Value)) (i : Nat) (cs : Array Value) (rows : List (List D)), cs.size = (i + ps.length) * k → qs.length = ps.length →
    (∀ (j : Nat) (p : Nat × AV) (q : Nat × Value), ps[j]? = some p → qs[j]? = some q → p.1 = q.1 ∧ VR G p.2 q.2) → rowsOf k i ps = some rows →
      ∃ vs', Instr.fill (fun i => some (i * k, k)) cs qs = some vs' ∧ vs'.size = cs.size ∧ (∀ j, j < i * k → vs'[j]? = cs[j]?) ∧ rows.length = ps.length ∧ (∀ r ∈ rows, r.length = k) ∧
        ∀ (n : Nat) (r : List D) (j : Nat) (d : D), rows[n]? = some r → r[j]? = some d → ∃ v, vs'[(i + n) * k + j]? = some v ∧ VD G.frz d v
  | [], [], i, cs, rows, hs, _, _, e => by
    simp [rowsOf] at e
    subst e
    exact ⟨cs, rfl, rfl, fun _ _ => rfl, rfl, by simp, fun n r j d h => by simp at h⟩
  | (j0, a) :: ps, (j1, v) :: qs, i, cs, rows, hs, hl, hp, e => by
    obtain ⟨h0, hv⟩ := hp 0 _ _ rfl rfl
    dsimp only at h0 hv
    subst h0
    unfold rowsOf at e
    split at e
    · rename_i hc
      obtain ⟨rfl, hk⟩ := hc
      split at e
      · rename_i x l hx hr
        injection e with e
        subst e
        have hplain : a.plain = true := by
          have := toDs_plain hx
          cases a <;> simp only [AV.cells, AV.plain] at this ⊢ <;> first | exact this _ (List.mem_singleton_self _) | (exact List.all_eq_true.2 this)
        have hcells := hv.cells hplain
        have hsz : v.cells.size = k := by rw [← hk, ← hcells.1]; simp
        obtain ⟨hxl, hxv⟩ := toDs_ok hx hcells
        have hsz' : cs.size = (j0 + (ps.length + 1)) * k := by simpa using hs
        have hle : j0 * k + k ≤ cs.size := by rw [hsz', ← Nat.succ_mul]; exact Nat.mul_le_mul_right _ (by omega)
        have hset := foldl_set v.cells.toList 0 (j0 * k) cs (by simp [hsz]; exact hle)
        obtain ⟨vs', g1, g2, g3, g4, g5, g6⟩ := rows_fill ps qs (j0 + 1) (v.cells.zipIdx.foldl (fun cs (c, j) => cs.setIfInBounds (j0 * k + j) c) cs) l (by
            have := congrArg List.length hset
            rw [← Array.foldl_toList, Array.toList_zipIdx]
            rw [Array.length_toList] at this
            rw [this]
            simp [hsz]
            rw [hsz'] at hle ⊢
            have e1 : (j0 + 1 + ps.length) * k = (j0 + (ps.length + 1)) * k := by rw [show j0 + 1 + ps.length = j0 + (ps.length + 1) by omega]
            omega) (by simpa using hl) (fun i p q h1 h2 => hp (i + 1) p q (by simpa using h1) (by simpa using h2)) hr
        have hnew : ∀ j : Nat, (v.cells.zipIdx.foldl (fun cs (c, j) => cs.setIfInBounds (j0 * k + j) c) cs)[j]? = (cs.toList.take (j0 * k) ++ (v.cells.toList ++ cs.toList.drop (j0 * k + k)))[j]? := fun j => by
          have := congrArg (fun l : List Value => l[j]?) hset
          rw [← Array.foldl_toList, Array.toList_zipIdx, ← Array.getElem?_toList]
          simpa [hsz] using this
        have hsize : (v.cells.zipIdx.foldl (fun cs (c, j) => cs.setIfInBounds (j0 * k + j) c) cs).size = cs.size := by
          have := congrArg List.length hset
          rw [← Array.foldl_toList, Array.toList_zipIdx]
          rw [Array.length_toList] at this
          rw [this]
          simp [hsz]
          omega
        refine ⟨vs', ?_, by rw [g2, hsize], fun j hj => ?_, by simp [g4], ?_, fun n r j d e1 e2 => ?_⟩
        · simp only [Instr.fill]
          rw [if_neg (by simp [hsz]; omega)]
          exact g1
        · rw [g3 j (by rw [Nat.succ_mul]; omega), hnew, List.getElem?_append_left (by simp; omega), List.getElem?_take_of_lt hj, Array.getElem?_toList]
        · intro r hr'
          rcases List.mem_cons.1 hr' with rfl | hr'
          · rw [hxl, hk]
          · exact g5 r hr'
        · cases n with
          | zero =>
            simp only [List.getElem?_cons_zero, Option.some.injEq] at e1
            subst e1
            have hj : j < k := by rw [← hk, ← hxl]; exact (List.getElem?_eq_some_iff.1 e2).1
            have hvj : v.cells.toList[j]? = some (v.cells.toList[j]'(by simp [hsz]; exact hj)) := List.getElem?_eq_getElem _
            refine ⟨_, ?_, hxv j d _ e2 hvj⟩
            rw [Nat.add_zero, g3 _ (by rw [Nat.succ_mul]; omega), hnew, List.getElem?_append_right (by simp; omega)]
            have : j0 * k + j - (List.take (j0 * k) cs.toList).length = j := by simp; omega
            rw [this, List.getElem?_append_left (by simp [hsz]; exact hj)]
            exact hvj
          | succ n =>
            simp only [List.getElem?_cons_succ] at e1
            obtain ⟨v', q1, q2⟩ := g6 n r j d e1 e2
            exact ⟨v', by rw [show j0 + (n + 1) = j0 + 1 + n by omega]; exact q1, q2⟩
      · cases e
    · cases e
  | [], _ :: _, _, _, _, _, hl, _, _ => by simp at hl
  | _ :: _, [], _, _, _, _, hl, _, _ => by simp at hl
/-- new data: a new block that is frozen at once -/
theorem ice_slc {k n : Nat} {rows : List (List D)} (S : Sim T G h w) (vs : Array Value) (e : TypeId) (fz : Nat × Nat) (cap : Nat) (hn : rows.length = n) (hc : n ≤ cap) (hm : cap ≤ maxLen) (hk : ∀ r ∈ rows, r.length = k)
    (hv : ∀ (i : Nat) (r : List D) (j : Nat) (d : D), rows[i]? = some r → r[j]? = some d → ∃ v, vs[i * k + j]? = some v ∧ VD G.frz d v) :
    VR (G.ice w.heap.size vs) (.d (.slc k rows)) (.slice (some ⟨w.heap.size, 0, none⟩) n cap) := by
  subst hn
  rcases Nat.eq_zero_or_pos rows.length with h0 | h0
  · have : rows = [] := List.eq_nil_of_length_eq_zero h0
    subst this
    exact .d (.slc0 k _ cap (fun e => by cases e) hm)
  · refine .d (.slc k rows w.heap.size 0 cap (fun i j => vs.getD (i * k + j) Go.undef) h0 hc hm hk (fun i r j x e1 e2 => ?_) (fun i r j x e1 e2 => ?_))
    · obtain ⟨v, h1, _⟩ := hv i r j x e1 e2
      show (if w.heap.size = w.heap.size then vs[0 + (i * k + j)]? else _) = _
      rw [if_pos rfl, Nat.zero_add, h1, Array.getD_eq_getD_getElem?, h1]
      rfl
    · obtain ⟨v, h1, h2⟩ := hv i r j x e1 e2
      rw [Array.getD_eq_getD_getElem?, h1]
      exact h2.mono (S.gle_ice vs).frz
theorem buildSliceP_ok {t len : Nat} {ps : List (Nat × AV)} {qs : List (Nat × Value)} (S : Sim T G h w) (hs : (buildSliceP P t len ps).1) (hl : qs.length = ps.length)
    (hp : ∀ (i : Nat) (p : Nat × AV) (q : Nat × Value), ps[i]? = some p → qs[i]? = some q → p.1 = q.1 ∧ VR G p.2 q.2) : PR T G h (buildSliceP P t len ps).2 ((Instr.buildSlice t len qs.toArray >>= fun z => pure (Next.value z)).run P w) := by
  unfold buildSliceP at hs ⊢
  split at hs <;> try exact hs.elim
  rename_i e k y hsl
  split at hs <;> try exact hs.elim
  rename_i rows hr
  obtain ⟨rfl, hbig⟩ := hs
  obtain ⟨i, hu, hi, hsz, _, hz, hk⟩ := slI_inv hsl
  obtain ⟨z, hz1, hz2⟩ := Option.map_eq_some_iff.1 hz
  obtain ⟨vs', h1, h2, _, h4, h5, h6⟩ := rows_fill (G := G) ps qs 0 ((Array.range (ps.length * k)).map (z.cells[· % z.cells.size]!)) rows (by simp) hl hp hr
  refine ⟨G.ice w.heap.size vs', .slice (some ⟨w.heap.size, 0, none⟩) ps.length ps.length, w.alloc (.cells vs' e), ?_, S.gle_ice vs', S.ice vs' e (0, 0), ice_slc S vs' e (0, 0) ps.length h4 (Nat.le_refl _) ?_ h5 (fun n r j d e1 e2 => by simpa using h6 n r j d e1 e2)⟩
  · simp only [Instr.buildSlice, Sem.run_bind, run_underlying hu, Result.andThen_ok, run_sizeOf hi, hsz]
    rw [if_neg (by omega)]
    rcases Nat.eq_zero_or_pos ps.length with h0 | h0
    · have hps : ps = [] := List.eq_nil_of_length_eq_zero h0
      subst hps
      have hqs : qs = [] := List.eq_nil_of_length_eq_zero hl
      subst hqs
      have hv0 : vs' = #[] := Array.eq_empty_of_size_eq_zero (by rw [h2]; simp)
      subst hv0
      simp [Instr.fill, newRow, newObj, Sem.run, zeroValue, typeInfo, hi, hz1, program]
      congr 2
      exact Array.eq_empty_of_size_eq_zero (by simp)
    · have hne : ps.length * k ≠ 0 := Nat.mul_ne_zero (by omega) (by omega)
      rw [if_neg hne]
      simp only [zeroValue, typeInfo, Sem.run_bind, bind_assoc, pure_bind]
      simp [program, Sem.run, hi, hz1]
      have h1' : Instr.fill (fun i => some (i * k, k)) (Array.map (fun x => z.cells[x % z.cells.size]!) (Array.range (ps.length * k))) qs = some vs' := h1
      rw [h1']
      simp [newRow, newObj, Sem.run]
  · rcases Nat.eq_zero_or_pos ps.length with h0 | h0
    · rw [h0]; decide
    · have : ps.length * 1 ≤ ps.length * k := Nat.mul_le_mul_left _ hk
      unfold maxLen
      omega
theorem cut_slc {F : Frz} {k : Nat} {rows : List (List D)} {s m : Nat} {A : Option Addr} {c : Nat} (hd : VD F (.slc k rows) (.slice A rows.length c)) (hs : s = k ∨ rows = []) {lo hi : Nat} (h1 : lo ≤ hi) (h2 : hi ≤ rows.length) (h3 : hi ≤ m) (h4 : m ≤ c) :
    VD F (.slc k ((rows.take hi).drop lo)) (.slice (if m = lo then A else A.map (·.add (lo * s))) (hi - lo) (m - lo)) := by
  obtain ⟨A', c', e, g1, g2, g3, g4, g5⟩ := hd.slc_inv
  injection e with e1 e2 e3
  subst e1 e3
  have hlen : ((rows.take hi).drop lo).length = hi - lo := by simp; omega
  rcases Nat.eq_zero_or_pos (hi - lo) with h0 | h0
  · have hnil : (rows.take hi).drop lo = [] := List.eq_nil_of_length_eq_zero (by omega)
    rw [hnil, h0]
    refine .slc0 k _ _ (fun e => ?_) (by omega)
    split at e
    · omega
    · cases A with
      | none => have := g3 rfl; omega
      | some a => cases e
  · obtain ⟨b, off, val, rfl, g6⟩ := g5 (by omega)
    rw [if_neg (by omega)]
    have hsk : s = k := hs.resolve_right (fun e => by subst e; simp at h2; omega)
    subst hsk
    have hget : ∀ (i : Nat) (r : List D), ((rows.take hi).drop lo)[i]? = some r → rows[lo + i]? = some r := fun i r e => by
      rw [List.getElem?_drop, List.getElem?_take] at e
      split at e
      · exact e
      · cases e
    have := VD.slc (F := F) s ((rows.take hi).drop lo) b (off + lo * s) (m - lo) (fun i j => val (lo + i) j) (by omega) (by omega) (by omega) (fun r hr => by
        obtain ⟨i, hi', rfl⟩ := List.getElem_of_mem hr
        exact g4 _ (List.mem_of_getElem? (hget i _ (List.getElem?_eq_getElem hi')))) (fun i r j x e1 e2 => by
        have := (g6 (lo + i) r j x (hget i r e1) e2).1
        rw [Nat.add_mul, Nat.add_assoc] at this
        rw [Nat.add_assoc]
        exact this) (fun i r j x e1 e2 => (g6 (lo + i) r j x (hget i r e1) e2).2)
    rw [hlen] at this
    simpa [add_at] using this
theorem run_bound {y : Nat} {k : IntKind} {n : Int} (code : BoundsCode) (h0 : 0 ≤ n) (h1 : n ≤ y) : (Instr.sliceBound (.int k n) y code).run P w = .ok n.toNat w := by
  simp [Instr.sliceBound, asIntOf, h0, h1]
def OI : Option Int → Option Value → Prop
  | none, q => q = none
  | some n, q => ∃ k, q = some (.int k n)
theorem optI_ok {o : Option AV} {r : Option Int} {q : Option Value} (e : optI o = some r) (hq : ∀ x, q = some x → ∃ a, o = some a ∧ VR G a x) (hn : q = none → o = none) : OI r q := by
  unfold optI at e
  split at e
  · injection e with e; subst e
    cases q with
    | none => rfl
    | some x => obtain ⟨a, ha, _⟩ := hq x rfl; cases ha
  · injection e with e; subst e
    cases q with
    | none => have := hn rfl; cases this
    | some x => obtain ⟨a, ha, hv⟩ := hq x rfl; injection ha with ha; subst ha; exact ⟨_, by rw [hv.int_inv]⟩
  · cases e
theorem run_bounds {isS : Bool} {n c : Nat} {lo hi mx : Option Int} {l h m : Option Value} (el : OI lo l) (eh : OI hi h) (em : OI mx m)
    (lo' hi' m' : Nat) (h0 : (lo' : Int) = lo.getD 0) (h1 : (hi' : Int) = hi.getD n) (h2 : (m' : Int) = mx.getD c) (h3 : lo' ≤ hi') (h4 : hi' ≤ m') (h5 : m' ≤ c) (h6 : mx.isSome = true → hi.isSome = true) :
    (Instr.sliceBounds isS n c l h m).run P w = .ok (lo', hi', m') w := by
  have b1 : ∀ code, (Instr.sliceBound (.int .i64 lo') hi' code).run P w = .ok lo' w := fun code => by simpa using run_bound (P := P) (w := w) (y := hi') (k := .i64) (n := lo') code (by omega) (by omega)
  have g1 : ∀ k code, (Instr.sliceBound (.int k lo') hi' code).run P w = .ok lo' w := fun k code => by simpa using run_bound (P := P) (w := w) (y := hi') (k := k) (n := lo') code (by omega) (by omega)
  have g2 : ∀ k code, (Instr.sliceBound (.int k hi') m' code).run P w = .ok hi' w := fun k code => by simpa using run_bound (P := P) (w := w) (y := m') (k := k) (n := hi') code (by omega) (by omega)
  have g3 : ∀ k code, (Instr.sliceBound (.int k m') c code).run P w = .ok m' w := fun k code => by simpa using run_bound (P := P) (w := w) (y := c) (k := k) (n := m') code (by omega) (by omega)
  cases mx with
  | none =>
    simp only [OI] at em
    subst em
    have hm : m' = c := by simp only [Option.getD_none] at h2; omega
    subst hm
    cases hi with
    | none =>
      simp only [OI] at eh
      subst eh
      have hh : hi' = n := by simp only [Option.getD_none] at h1; omega
      subst hh
      cases lo with
      | none =>
        simp only [OI] at el
        subst el
        have : lo' = 0 := by simp only [Option.getD_none] at h0; omega
        subst this
        simp [Instr.sliceBounds]
      | some x =>
        obtain ⟨k, rfl⟩ := el
        simp only [Option.getD_some] at h0
        subst h0
        simp [Instr.sliceBounds, g1]
    | some y =>
      obtain ⟨k', rfl⟩ := eh
      simp only [Option.getD_some] at h1
      subst h1
      cases lo with
      | none =>
        simp only [OI] at el
        subst el
        have : lo' = 0 := by simp only [Option.getD_none] at h0; omega
        subst this
        simp [Instr.sliceBounds, g2]
      | some x =>
        obtain ⟨k, rfl⟩ := el
        simp only [Option.getD_some] at h0
        subst h0
        simp [Instr.sliceBounds, g1, g2]
  | some z =>
    obtain ⟨k2, rfl⟩ := em
    simp only [Option.getD_some] at h2
    subst h2
    cases hi with
    | none => have := h6 rfl; cases this
    | some y =>
      obtain ⟨k', rfl⟩ := eh
      simp only [Option.getD_some] at h1
      subst h1
      cases lo with
      | none =>
        simp only [OI] at el
        subst el
        have : lo' = 0 := by simp only [Option.getD_none] at h0; omega
        subst this
        simp [Instr.sliceBounds, g2, g3]
      | some x =>
        obtain ⟨k, rfl⟩ := el
        simp only [Option.getD_some] at h0
        subst h0
        simp [Instr.sliceBounds, g1, g2, g3]
theorem cutP_ok {t e s y k : Nat} {rows : List (List D)} {lo hi mx : Option Int} {l hh m : Option Value} (S : Sim T G h w) (hsl : slI P t = some (e, s, y)) (hsk : s = k ∨ rows = []) (hc : (cutP k rows lo hi mx).1) (hv : VD G.frz (.slc k rows) u)
    (el : OI lo l) (eh : OI hi hh) (em : OI mx m) :
    PR T G h (cutP k rows lo hi mx).2 ((Instr.sliceAt t u l hh m >>= fun z => pure (Next.value z)).run P w) := by
  obtain ⟨i, hu, hi', hsz, _⟩ := slI_inv hsl
  obtain ⟨A, c, rfl, g1, g2, g3, _⟩ := hv.slc_inv
  have run : ∀ lo' hi2 m' : Nat, (Instr.sliceBounds true rows.length c l hh m).run P w = .ok (lo', hi2, m') w → (Instr.sliceAt t (.slice A rows.length c) l hh m >>= fun z => pure (Next.value z)).run P w = .ok (.value (.slice (if m' = lo' then A else A.map (·.add (lo' * s))) (hi2 - lo') (m' - lo'))) w := fun lo' hi2 m' hb => by
    simp [Instr.sliceAt, Instr.slice, run_underlying hu, hb, run_sizeOf hi', hsz]
  unfold cutP at hc ⊢
  split at hc
  · obtain ⟨c1, c2, c3⟩ := hc
    have hb := run_bounds (P := P) (w := w) (isS := true) (n := rows.length) (c := c) el eh em (lo.getD 0).toNat (hi.getD rows.length).toNat c (by omega) (by omega) (by simp) (by omega) (by omega) (Nat.le_refl _) (by simp)
    exact ⟨G, _, w, run _ _ _ hb, Gle.refl G, S, .d (cut_slc hv hsk (by omega) (by omega) (by omega) (Nat.le_refl _))⟩
  · rename_i z
    obtain ⟨c0, c1, c2, c3, c4⟩ := hc
    obtain ⟨y', rfl⟩ := Option.isSome_iff_exists.1 c0
    simp only [Option.getD_some] at c2 c3
    have hb := run_bounds (P := P) (w := w) (isS := true) (n := rows.length) (c := c) el eh em (lo.getD 0).toNat y'.toNat z.toNat (by omega) (by simp only [Option.getD_some]; omega) (by simp only [Option.getD_some]; omega) (by omega) (by omega) (by omega) (by simp)
    exact ⟨G, _, w, run _ _ _ hb, Gle.refl G, S, .d (cut_slc hv hsk (by simp only [Option.getD_some]; omega) (by simp only [Option.getD_some]; omega) (by simp only [Option.getD_some]; omega) (by omega))⟩
theorem sliceP_ok {t : Nat} {lo hi mx : Option AV} {l hh m : Option Value} (S : Sim T G h w) (hs : (sliceP P t a lo hi mx).1) (ha : VR G a u)
    (ql : ∀ x, l = some x → ∃ a, lo = some a ∧ VR G a x) (nl : l = none → lo = none) (qh : ∀ x, hh = some x → ∃ a, hi = some a ∧ VR G a x) (nh : hh = none → hi = none) (qm : ∀ x, m = some x → ∃ a, mx = some a ∧ VR G a x) (nm : m = none → mx = none) :
    PR T G h (sliceP P t a lo hi mx).2 ((Instr.sliceAt t u l hh m >>= fun z => pure (Next.value z)).run P w) := by
  unfold sliceP at hs ⊢
  split at hs <;> try exact hs.elim
  rename_i lo' hi' mx' e1 e2 e3
  have el := optI_ok e1 ql nl
  have eh := optI_ok e2 qh nh
  have em := optI_ok e3 qm nm
  split at hs <;> try exact hs.elim
  · rename_i s
    obtain ⟨h0, h1, h2, h3, h4⟩ := hs
    subst h1
    obtain ⟨t', rfl, hs1, hs2⟩ := ha.str_inv
    subst hs1
    have hu := isStr_inv h0
    have hsz := size_data t'
    have hb := run_bounds (P := P) (w := w) (isS := false) (n := t'.size) (c := t'.size) (mx := none) (m := none) el eh rfl (lo'.getD 0).toNat (hi'.getD t'.data.toList.length).toNat t'.size (by omega) (by rw [show (t'.size : Int) = (t'.data.toList.length : Int) by omega]; omega) (by simp) (by omega) (by omega) (Nat.le_refl _) (by simp)
    simp only [OI] at em
    subst em
    refine ⟨G, .string (t'.extract (lo'.getD 0).toNat (hi'.getD t'.data.toList.length).toNat), w, ?_, Gle.refl G, S, VR.str _ _ ?_ ?_⟩
    · simp [Instr.sliceAt, Instr.slice, run_underlying hu, hb]
    · rw [Lib.extract_data, List.drop_take]
    · have : t'.data.toList.length ≤ maxLen := by rw [hsz]; exact hs2
      simp only [List.length_drop, List.length_take]
      omega
  · rename_i k rows
    split at hs <;> try exact hs.elim
    rename_i e s y hsl
    cases ha with
    | d hd => exact cutP_ok S hsl hs.1 hs.2 hd el eh em
  · rename_i t' k rows
    split at hs <;> try exact hs.elim
    rename_i e s y hsl
    cases ha with
    | own hd _ => exact cutP_ok S hsl hs.1 hs.2 hd el eh em
  · rename_i k rows i o
    split at hs <;> try exact hs.elim
    rename_i n s r har
    obtain ⟨rfl, rfl, rfl, rfl, rfl, hn, hn0, hn1⟩ := hs
    obtain ⟨e, hu, ht⟩ := arI_inv har
    obtain ⟨_, ie, _, hie, _, hsz, _⟩ := tyI_inv ht
    simp only [OI] at el eh em
    subst el eh em
    cases ha with
    | elt _ _ _ _ b off val row hr hf hv =>
      have hg : rows.getD i [] = row := by simp [List.getD, hr]
      rw [hg] at hn ⊢
      subst hn
      have hb := run_bounds (P := P) (w := w) (isS := false) (n := row.length) (c := row.length) (lo := none) (hi := none) (mx := none) (l := none) (h := none) (m := none) rfl rfl rfl 0 row.length row.length (by simp) (by simp) (by simp) (by omega) (Nat.le_refl _) (Nat.le_refl _) (by simp)
      have hget : ∀ (i : Nat) (r : List D), (row.map fun x => [x])[i]? = some r → ∃ x, row[i]? = some x ∧ r = [x] := fun i r e => by
        rw [List.getElem?_map] at e
        obtain ⟨x, h1, rfl⟩ := Option.map_eq_some_iff.1 e
        exact ⟨x, h1, rfl⟩
      have := VD.slc (F := G.frz) 1 (row.map fun x => [x]) b off row.length (fun i j => val i) (by simp; omega) (by simp) (by unfold maxLen; omega) (fun r hr => by
          obtain ⟨x, _, rfl⟩ := List.mem_map.1 hr
          rfl) (fun i r j x e1 e2 => by
          obtain ⟨y, h1, rfl⟩ := hget i r e1
          cases j with
          | zero => simp at e2; subst e2; simpa using hf i _ h1
          | succ j => simp at e2) (fun i r j x e1 e2 => by
          obtain ⟨y, h1, rfl⟩ := hget i r e1
          cases j with
          | zero => simp at e2; subst e2; exact hv i _ h1
          | succ j => simp at e2)
      refine ⟨G, _, w, ?_, Gle.refl G, S, .d this⟩
      have hn' : ¬ row.length = 0 := by omega
      simp [Instr.sliceAt, run_underlying hu, Instr.sureAddr, hb, run_sizeOf hie, hsz, hn', Addr.add]
theorem isIf_of {t : Nat} {k : IntKind} (e : intI P t = some k) : P.underlying t = some (.int k) := by
  unfold intI at e
  split at e
  · injection e with e; subst e; assumption
  · cases e
theorem isBytes_inv {t : Nat} (e : isBytes P t = true) : ∃ el, P.underlying t = some (.slice el) ∧ P.underlying el = some (.int .u8) := by
  unfold isBytes at e
  split at e
  · rename_i el s y hsl
    simp only [Bool.and_eq_true, beq_iff_eq] at e
    obtain ⟨i, hu, _⟩ := slI_inv hsl
    exact ⟨el, hu, isIf_of e.1⟩
  · cases e
theorem bytesOf_ok : ∀ {rows : List (List D)} {l : List UInt8}, bytesOf rows = some l → rows.length = l.length ∧ ∀ (i : Nat) (c : UInt8), l[i]? = some c → rows[i]? = some [.int .u8 (c.toNat : Int)]
  | [], l, e => by simp [bytesOf] at e; subst e; exact ⟨rfl, fun i c h => by simp at h⟩
  | r :: rows, l, e => by
    unfold bytesOf at e
    split at e
    · rename_i c s hc hs
      injection e with e
      subst e
      obtain ⟨h1, h2⟩ := bytesOf_ok hs
      refine ⟨by simp [h1], fun i d hd => ?_⟩
      cases i with
      | zero =>
        simp at hd
        subst hd
        unfold byteOf at hc
        split at hc
        · rename_i n
          split at hc
          · rename_i hn
            injection hc with hc
            subst hc
            simp
            have : n.toNat < 256 := by omega
            omega
          · cases hc
        · cases hc
      | succ i => simp at hd ⊢; exact h2 i d hd
    · cases e
theorem run_back {s d : TypeId} {k : Nat} {rows : List (List D)} {l : List UInt8} (S : Sim T G h w) (hb : isBytes P s = true) (hd : isStr P d = true) (hv : VD G.frz (.slc k rows) u) (hk : k = 1 ∨ rows = []) (hl : bytesOf rows = some l) :
    PR T G h (.d (.str l)) ((convert s d u >>= fun z => pure (Next.value z)).run P w) := by
  obtain ⟨el, hu, he⟩ := isBytes_inv hb
  have hds := isStr_inv hd
  obtain ⟨hlen, hbyte⟩ := bytesOf_ok hl
  obtain ⟨A, c, rfl, g1, g2, g3, g4, g5⟩ := hv.slc_inv
  rcases Nat.eq_zero_or_pos rows.length with h0 | h0
  · have hl0 : l = [] := List.eq_nil_of_length_eq_zero (by omega)
    subst hl0
    refine ⟨G, .string .empty, w, ?_, Gle.refl G, S, VR.str _ _ rfl (by simp)⟩
    cases A with
    | none => simp [run_convert_bytes_string w s d el none rows.length c hu he hds, Conv.bytesToString]
    | some a =>
      rw [h0]
      simp [run_convert_bytes_string w s d el (some a) 0 c hu he hds, Conv.bytesToString, loadCells, loadCellsFrom]
  · obtain ⟨b, off, val, rfl, g6⟩ := g5 h0
    have hk1 : k = 1 := hk.resolve_right (fun e => by subst e; simp at h0)
    subst hk1
    have hrun := run_convert_bytes_back (P := P) w s d el ⟨b, off, none⟩ c l hu he hds (fun j hj => by
      have h1 := hbyte j l[j] (List.getElem?_eq_getElem hj)
      obtain ⟨h2, h3⟩ := g6 j _ 0 _ h1 rfl
      rw [add_at]
      have := S.frz _ _ _ h2
      simp only [Nat.mul_one, Nat.add_zero] at this
      rw [this, h3.int_inv])
    refine ⟨G, .string ⟨l.toArray⟩, w, ?_, Gle.refl G, S, VR.str _ _ (by simp) (by omega)⟩
    rw [hlen, Sem.run_bind, hrun]
    rfl
theorem byteRows_get {s : List UInt8} {i : Nat} {r : List D} (e : (byteRows s)[i]? = some r) : ∃ c, s[i]? = some c ∧ r = [.int .u8 (c.toNat : Int)] := by
  unfold byteRows at e
  rw [List.getElem?_map] at e
  obtain ⟨c, h1, rfl⟩ := Option.map_eq_some_iff.1 e
  exact ⟨c, h1, rfl⟩
theorem convP_ok {s d : TypeId} (S : Sim T G h w) (hsrc : (P.underlying s).isSome = true) (hs : (convP P s d a).1) (ha : VR G a u) : PR T G h (convP P s d a).2 ((convert s d u >>= fun z => pure (Next.value z)).run P w) := by
  unfold convP at hs ⊢
  split at hs <;> try exact hs.elim
  · rename_i k n
    split at hs <;> try exact hs.elim
    rename_i k' hk
    have hd := isIf_of hk
    obtain ⟨su, hsu⟩ := Option.isSome_iff_exists.1 hsrc
    have := ha.int_inv
    subst this
    refine ⟨G, .int k' (k'.wrap n), w, ?_, Gle.refl G, S, VR.int _ _⟩
    simp only [convert, Sem.run_bind, run_underlying hsu, run_underlying hd, Result.andThen_ok]
    cases su <;> rfl
  · rename_i l
    obtain ⟨t, rfl, h1, h2⟩ := ha.str_inv
    subst h1
    split at hs
    · rename_i hc
      rw [if_pos hc]
      refine ⟨G, .string t, w, ?_, Gle.refl G, S, ha⟩
      simp [convert, run_underlying (isStr_inv hc.1), run_underlying (isStr_inv hc.2)]
    · rename_i hc
      rw [if_neg hc]
      obtain ⟨hss, hb⟩ := hs
      obtain ⟨el, hu, he⟩ := isBytes_inv hb
      have hrun := run_bytes_of_string (P := P) w s d el t (isStr_inv hss) hu he
      have hcap : t.size ≤ grownCap w t.size 0 el ∧ grownCap w t.size 0 el ≤ maxLen := by
        have : t.size < 2 ^ 63 := by unfold maxLen at h2; omega
        have h3 : 0 < 2 ^ 63 - t.size := by omega
        have h4 := Nat.mod_lt (w.tape w.drawn (.appendCap t.size 0 el)) h3
        simp only [grownCap, Question.cut]
        unfold maxLen
        omega
      generalize grownCap w t.size 0 el = cap at *
      have S1 := S.drew
      have hsz : (bytesRow t cap).size = cap := by
        unfold bytesRow
        have : t.data.size = t.size := rfl
        simp [this]
        omega
      refine ⟨G.ice w.heap.size (bytesRow t cap), .slice (some ⟨w.heap.size, 0, none⟩) t.size cap, _, by rw [Sem.run_bind, hrun]; rfl, S1.gle_ice _, S1.ice _ _ _, ?_⟩
      have hlen : (byteRows t.data.toList).length = t.size := by unfold byteRows; rw [List.length_map, size_data]
      exact ice_slc S1 (bytesRow t cap) el (0, 0) cap hlen hcap.1 hcap.2 (fun r hr => by
        unfold byteRows at hr
        obtain ⟨c, _, rfl⟩ := List.mem_map.1 hr
        rfl) (fun i r j x e1 e2 => by
        obtain ⟨c, h1, rfl⟩ := byteRows_get e1
        cases j with
        | zero =>
          simp at e2
          subst e2
          refine ⟨_, ?_, .int _ _⟩
          have hi : i < t.data.size := by
            have := (List.getElem?_eq_some_iff.1 h1).1
            simpa using this
          unfold bytesRow
          rw [Nat.mul_one, Nat.add_zero, Array.getElem?_append_left (by simpa using hi), Array.getElem?_map, ← Array.getElem?_toList, h1]
          rfl
        | succ j => simp at e2)
  · rename_i k rows
    split at hs <;> try exact hs.elim
    rename_i l hl
    cases ha with
    | d hd => exact run_back S hs.1 hs.2.1 hd hs.2.2 hl
  · rename_i t k rows
    split at hs <;> try exact hs.elim
    rename_i l hl
    cases ha with
    | own hd _ => exact run_back S hs.1 hs.2.1 hd hs.2.2 hl
  · cases ha
    exact run_back (k := 1) (rows := []) S hs.1 hs.2 (.slc0 1 none 0 (fun _ => rfl) (by decide)) (.inr rfl) rfl

/-! equality of structs -/
def flF (g : TypeId → Option (List Nat)) (P : Program) : Nat → List Field → Option (List Nat)
  | _, [] => some []
  | o, f :: fs => match g f.type, tyI P f.type, flF g P (o + ((tyI P f.type).map (·.2)).getD 0) fs with
    | some ks, some (_, n), some r => if f.name ≠ "_" ∧ f.offset = o ∧ ks.length = n ∧ n ≠ 0 then some (ks ++ r) else none
    | _, _, _ => none
def flK (P : Program) : Nat → TypeId → Option (List Nat)
  | 0, _ => none
  | d + 1, t => match P.underlying t with
    | some (.int _) => some [1]
    | some .bool => some [2]
    | some .string => some [3]
    | some (.struct fs) => if P.stoodInHeld t = true then none else flF (flK P d) P 0 fs.toList
    | _ => none
def eqI (P : Program) (t : TypeId) : Option (List Nat) := if P.eqGuardType P.depth t = true then none else match P.underlying t with
  | some (.struct _) => flK P 4 t
  | _ => none
def eqC : Nat → AV → AV → Option Bool
  | 1, .d (.int k a), .d (.int k' b) => if k = k' then some (decide (a = b)) else none
  | 2, .d (.bool a), .d (.bool b) => some (a == b)
  | 3, .d (.str a), .d (.str b) => some (decide (a = b))
  | _, _, _ => none
def eqKs : List Nat → List AV → List AV → Option Bool
  | [], [], [] => some true
  | k :: ks, a :: l, b :: m => match eqC k a b, eqKs ks l m with
    | some p, some q => some (p && q)
    | _, _ => none
  | _, _, _ => none
def eqP (P : Program) (op : BinOp) (t : TypeId) (a b : AV) : PV :=
  match a, b, eqI P t with
  | .agg l, .agg m, some ks => match eqKs ks l m with
    | some r => match op with
      | .eql => (True, .d (.bool r))
      | .neq => (True, .d (.bool (!r)))
      | _ => koP
    | none => koP
  | _, _, _ => koP
theorem eqKs_append : ∀ {k1 k2 : List Nat} {l m : List AV} {r : Bool}, eqKs (k1 ++ k2) l m = some r → ∃ p q, eqKs k1 (l.take k1.length) (m.take k1.length) = some p ∧ eqKs k2 (l.drop k1.length) (m.drop k1.length) = some q ∧ r = (p && q)
  | [], k2, l, m, r, e => ⟨true, r, rfl, by simpa using e, by simp⟩
  | k :: k1, k2, a :: l, b :: m, r, e => by
    simp only [List.cons_append, eqKs] at e
    split at e
    · rename_i p q hp hq
      injection e with e
      subst e
      obtain ⟨p', q', h1, h2, rfl⟩ := eqKs_append hq
      refine ⟨p && p', q', ?_, by simpa using h2, by rw [Bool.and_assoc]⟩
      simp [eqKs, hp, h1]
    · cases e
  | _ :: _, _, [], _, _, e => by simp [eqKs] at e
  | _ :: _, _, _ :: _, [], _, e => by simp [eqKs] at e
theorem eqKs_len : ∀ {ks : List Nat} {l m : List AV} {r : Bool}, eqKs ks l m = some r → l.length = ks.length ∧ m.length = ks.length
  | [], [], [], _, _ => ⟨rfl, rfl⟩
  | k :: ks, a :: l, b :: m, r, e => by
    simp only [eqKs] at e
    split at e
    · rename_i p q hp hq
      obtain ⟨h1, h2⟩ := eqKs_len hq
      exact ⟨by simp [h1], by simp [h2]⟩
    · cases e
  | [], _ :: _, _, _, e => by simp [eqKs] at e
  | [], [], _ :: _, _, e => by simp [eqKs] at e
  | _ :: _, [], _, _, e => by simp [eqKs] at e
  | _ :: _, _ :: _, [], _, e => by simp [eqKs] at e
theorem eqC1 {r : Bool} (h : eqC 1 a b = some r) : ∃ k x y, a = .d (.int k x) ∧ b = .d (.int k y) ∧ r = decide (x = y) := by
  cases a <;> try (simp [eqC] at h; done)
  rename_i x
  cases b <;> try (cases x <;> simp [eqC] at h <;> done)
  rename_i y
  cases x <;> try (simp [eqC] at h; done)
  rename_i k n
  cases y <;> try (simp [eqC] at h; done)
  rename_i k' m
  simp only [eqC] at h
  split at h
  · rename_i hk
    subst hk
    injection h with h
    exact ⟨k, n, m, rfl, rfl, h.symm⟩
  · cases h
theorem eqC2 {r : Bool} (h : eqC 2 a b = some r) : ∃ x y, a = .d (.bool x) ∧ b = .d (.bool y) ∧ r = (x == y) := by
  cases a <;> try (simp [eqC] at h; done)
  rename_i x
  cases b <;> try (cases x <;> simp [eqC] at h <;> done)
  rename_i y
  cases x <;> try (simp [eqC] at h; done)
  rename_i n
  cases y <;> try (simp [eqC] at h; done)
  rename_i m
  simp only [eqC] at h
  injection h with h
  exact ⟨n, m, rfl, rfl, h.symm⟩
theorem eqC3 {r : Bool} (h : eqC 3 a b = some r) : ∃ x y, a = .d (.str x) ∧ b = .d (.str y) ∧ r = decide (x = y) := by
  cases a <;> try (simp [eqC] at h; done)
  rename_i x
  cases b <;> try (cases x <;> simp [eqC] at h <;> done)
  rename_i y
  cases x <;> try (simp [eqC] at h; done)
  rename_i n
  cases y <;> try (simp [eqC] at h; done)
  rename_i m
  simp only [eqC] at h
  injection h with h
  exact ⟨n, m, rfl, rfl, h.symm⟩
theorem run_eqFields {g : TypeId → Option (List Nat)} {d : Nat} {l m : List AV} {vs us : List Value} (h1 : CellsR G l vs) (h2 : CellsR G m us)
    (hg : ∀ t ks (l m : List AV) (vs us : List Value) (r rb : Bool) (n : Nat), g t = some ks → tyI P t = some (rb, n) → CellsR G l vs → CellsR G m us → eqKs ks l m = some r → (Op.equalIn d t (ofCells rb vs) (ofCells rb us)).run P w = .ok r w) :
    ∀ (fs : List Field) (o : Nat) (ks : List Nat) (r : Bool), flF g P o fs = some ks → eqKs ks (l.drop o) (m.drop o) = some r → (Op.eqFields d vs.toArray us.toArray fs).run P w = .ok r w
  | [], o, ks, r, e, er => by
    simp [flF] at e
    subst e
    have : r = true := by
      cases hl : l.drop o <;> cases hm : m.drop o <;> rw [hl, hm] at er <;> simp [eqKs] at er
      exact er
    subst this
    simp [Op.eqFields]
  | f :: fs, o, ks, r, e, er => by
    unfold flF at e
    split at e
    · rename_i k1 rb n k2 hk1 ht hk2
      split at e
      · rename_i hc
        obtain ⟨hname, hoff, hlen, hn0⟩ := hc
        injection e with e
        subst e
        obtain ⟨p, q, e1, e2, rfl⟩ := eqKs_append er
        rw [ht] at hk2
        simp only [Option.map_some, Option.getD_some] at hk2
        rw [hlen] at e1 e2
        simp only [List.drop_drop] at e2
        have hl1 := (eqKs_len e1).1
        have hl2 := (eqKs_len e1).2
        have fit1 : o + n ≤ vs.length := by
          rw [h1.1]
          simp only [List.length_take, List.length_drop] at hl1
          omega
        have fit2 : o + n ≤ us.length := by
          rw [h2.1]
          simp only [List.length_take, List.length_drop] at hl2
          omega
        have heq := hg f.type k1 _ _ _ _ p rb n hk1 ht (⟨by simp [h1.1], cells_take h1.1 h1.2⟩ : CellsR G ((l.drop o).take n) ((vs.drop o).take n)) (⟨by simp [h2.1], cells_take h2.1 h2.2⟩ : CellsR G ((m.drop o).take n) ((us.drop o).take n)) e1
        have hrest := run_eqFields h1 h2 hg fs (o + n) k2 q hk2 e2
        have hp1 := run_part (P := P) (w := w) ht vs (off := o) fit1
        have hp2 := run_part (P := P) (w := w) ht us (off := o) fit2
        simp only [Op.eqFields, hname, ne_eq, not_false_eq_true, if_true, Sem.run_bind, hoff, hp1, hp2, heq, Result.andThen_ok]
        cases p with
        | true => simpa using hrest
        | false => simp
      · cases e
    · cases e
theorem run_eqK : ∀ (d : Nat) (t : TypeId) (ks : List Nat) (l m : List AV) (vs us : List Value) (r rb : Bool) (n e : Nat), flK P d t = some ks → tyI P t = some (rb, n) → CellsR G l vs → CellsR G m us → eqKs ks l m = some r → (Op.equalIn (d + e) t (ofCells rb vs) (ofCells rb us)).run P w = .ok r w
  | 0, _, _, _, _, _, _, _, _, _, _, h, _, _, _, _ => by simp [flK] at h
  | d + 1, t, ks, l, m, vs, us, r, rb, n, e, hk, ht, h1, h2, er => by
    obtain ⟨desc, i, hu, hi, hrb, hn, hr1⟩ := tyI_inv ht
    unfold flK at hk
    rw [hu] at hk
    have hde : d + 1 + e = (d + e) + 1 := by omega
    rw [hde]
    have basic : ∀ k, ks = [k] → ∃ a b v u, l = [a] ∧ m = [b] ∧ vs = [v] ∧ us = [u] ∧ VR G a v ∧ VR G b u ∧ eqC k a b = some r := fun k hks => by
      subst hks
      match l, m, er with
      | [a], [b], er =>
        match vs, us, h1, h2 with
        | [v], [u], h1, h2 =>
          refine ⟨a, b, v, u, rfl, rfl, rfl, rfl, h1.2 0 a v rfl rfl, h2.2 0 b u rfl rfl, ?_⟩
          simp only [eqKs] at er
          split at er
          · rename_i p q hp hq
            injection hq with hq
            subst hq
            simpa [hp] using er
          · cases er
        | [], _, h1, _ => have := h1.1; simp at this
        | [_], [], _, h2 => have := h2.1; simp at this
        | _ :: _ :: _, _, h1, _ => have := h1.1; simp at this
        | [_], _ :: _ :: _, _, h2 => have := h2.1; simp at this
      | [], _, er => simp [eqKs] at er
      | [_], [], er => simp [eqKs] at er
      | _ :: _ :: _, [], er => simp [eqKs] at er
      | _ :: _ :: _, [_], er => simp [eqKs] at er
      | [_], _ :: _ :: _, er => simp [eqKs] at er
      | _ :: _ :: _, _ :: _ :: _, er => simp [eqKs] at er
    cases desc with
    | int kk =>
      injection hk with hk
      obtain ⟨a, b, v, u, rfl, rfl, rfl, rfl, hv, hw, hc⟩ := basic 1 hk.symm
      obtain ⟨k, x, y, rfl, rfl, rfl⟩ := eqC1 hc
      have e1 := hv.int_inv
      have e2 := hw.int_inv
      subst e1 e2
      rw [← hrb]
      have := run_equalIn_int (P := P) w (d + e) t k kk x y hu
      simp only [ofCells, TypeDesc.isRow, Bool.false_eq_true, if_false, List.headD_cons]
      rw [this]
      rfl
    | bool =>
      injection hk with hk
      obtain ⟨a, b, v, u, rfl, rfl, rfl, rfl, hv, hw, hc⟩ := basic 2 hk.symm
      obtain ⟨x, y, rfl, rfl, rfl⟩ := eqC2 hc
      have e1 := hv.bool_inv
      have e2 := hw.bool_inv
      subst e1 e2
      rw [← hrb]
      simp only [ofCells, TypeDesc.isRow, Bool.false_eq_true, if_false, List.headD_cons]
      rw [run_equalIn_bool' (P := P) w (d + e) t _ _ hu]
    | string =>
      injection hk with hk
      obtain ⟨a, b, v, u, rfl, rfl, rfl, rfl, hv, hw, hc⟩ := basic 3 hk.symm
      obtain ⟨x, y, rfl, rfl, rfl⟩ := eqC3 hc
      obtain ⟨s1, rfl, q1, _⟩ := hv.str_inv
      obtain ⟨s2, rfl, q2, _⟩ := hw.str_inv
      rw [← hrb]
      simp only [ofCells, TypeDesc.isRow, Bool.false_eq_true, if_false, List.headD_cons]
      rw [run_equalIn_string (P := P) w (d + e) t _ _ hu, ByteArray.toList_eq, ByteArray.toList_eq, q1, q2]
      congr 1
      exact Bool.eq_iff_iff.2 (by simp)
    | struct fs =>
      dsimp only at hk
      split at hk
      · cases hk
      · rename_i hst
        have hrow : rb = true := by rw [← hrb]
        subst hrow
        simp only [ofCells, if_true]
        have hfs : P.fieldsOf t = fs := by simp [Program.fieldsOf, hu]
        rw [run_equalIn_struct w (d + e) t _ _ (by rw [hfs]; exact hu) (by simpa using hst), hfs]
        exact run_eqFields h1 h2 (fun t ks l m vs us r rb n a1 a2 a3 a4 a5 => run_eqK d t ks l m vs us r rb n e a1 a2 a3 a4 a5) fs.toList 0 ks r hk (by simpa using er)
    | _ => cases hk
theorem eqP_ok (op : BinOp) (t : TypeId) (x y : Operand) (S : Sim T G h w) (hs : (eqP P op t a b).1) (ha : VR G a u) (hb : VR G b v) :
    PR T G h (eqP P op t a b).2 (((do eqGuard op t x y u v; binOp op t u v : Sem Value) >>= fun z => pure (Next.value z)).run P w) := by
  unfold eqP at hs ⊢
  split at hs <;> try exact hs.elim
  rename_i l m ks hk
  split at hs <;> try exact hs.elim
  rename_i r hr
  unfold eqI at hk
  split at hk
  · cases hk
  · rename_i hgd
    split at hk
    · rename_i fs hu
      cases ha with
      | agg _ vs hl hc =>
        cases hb with
        | agg _ us hl' hc' =>
          have hg := run_eqGuard_agg (P := P) w op t x y vs.toArray us.toArray (by simpa using hgd)
          have hty : ∃ n, tyI P t = some (true, n) ∨ True := ⟨0, .inr trivial⟩
          have heq : (Op.equalIn 10000 t (.agg vs.toArray) (.agg us.toArray)).run P w = .ok r w := by
            unfold flK at hk
            rw [hu] at hk
            dsimp only at hk
            split at hk
            · cases hk
            · rename_i hst
              have hfs : P.fieldsOf t = fs := by simp [Program.fieldsOf, hu]
              rw [run_equalIn_struct w 9999 t _ _ (by rw [hfs]; exact hu) (by simpa using hst), hfs]
              exact run_eqFields (G := G) (g := flK P 3) ⟨hl, hc⟩ ⟨hl', hc'⟩ (fun t ks l m vs us r rb n a1 a2 a3 a4 a5 => run_eqK 3 t ks l m vs us r rb n 9996 a1 a2 a3 a4 a5) fs.toList 0 ks r hk (by simpa using hr)
          split at hs <;> try exact hs.elim
          · refine ⟨G, .bool r, w, ?_, Gle.refl G, S, VR.bool _⟩
            rw [Sem.run_bind, Sem.run_bind, hg, Result.andThen_ok, run_eql_struct, heq]
            rfl
          · refine ⟨G, .bool (!r), w, ?_, Gle.refl G, S, VR.bool _⟩
            rw [Sem.run_bind, Sem.run_bind, hg, Result.andThen_ok, run_neq_struct, heq]
            rfl
    · cases hk
end
end Go.Proofs.YtnoboapafndnlaaDoor

/- Texts that the law ScriptParses rests on, packed. -/
import Derived.Test.YthpkjmbdjnelfaaDoorGC
import Derived.Test.YthpkjmbdjnelfaaDoorGB
import Derived.Test.YthpkjmbdjnelfaaDoorGT
namespace Go.Proofs.YthpkjmbdjnelfaaDoor
open Go.RowKit
set_option linter.unusedSimpArgs false
set_option linter.unusedVariables false
section
variable {P : Program} {T : Tbl} {ops : Array Oper} {K : List AV → AH → Prop} {X : AV → AH → Prop} {o : Oper} {rest : List Oper} {sl : List AV} {h : AH}
theorem VR.sliceG {G : Gh} {k : Nat} {r : List D} {u : Value} (h : VR G (.elt k [r] 0 0) u) (h0 : 0 < r.length) (hm : r.length ≤ maxLen) : ∃ a, u = .pointer (some a) ∧ VD G.frz (.slc 1 (r.map fun x => [x])) (.slice (some a) r.length r.length) := by
  cases h with
  | elt _ _ _ _ b off val r' hr hf hv =>
    have hr : r = r' := by simpa using hr
    subst hr
    refine ⟨⟨b, off + 0, none⟩, rfl, ?_⟩
    have e : (r.map fun x => [x]).length = r.length := by simp
    have := VD.slc (F := G.frz) 1 (r.map fun x => [x]) b off r.length (fun i _ => val i) (by rw [e]; exact h0) (by rw [e]; exact Nat.le_refl _) hm (fun x hx => by
        obtain ⟨y, _, rfl⟩ := List.mem_map.1 hx
        rfl) (fun i r' j x e1 e2 => ?_) (fun i r' j x e1 e2 => ?_)
    · rw [e] at this
      exact this
    · rw [List.getElem?_map] at e1
      obtain ⟨y, hy, rfl⟩ := Option.map_eq_some_iff.1 e1
      match j, e2 with
      | 0, e2 =>
        injection e2 with e2
        subst e2
        have := hf i y hy
        simpa using this
      | n + 1, e2 => cases e2
    · rw [List.getElem?_map] at e1
      obtain ⟨y, hy, rfl⟩ := Option.map_eq_some_iff.1 e1
      match j, e2 with
      | 0, e2 =>
        injection e2 with e2
        subst e2
        exact hv i y hy
      | n + 1, e2 => cases e2
theorem AYv.sliceG {ρ : Operand → AV} {t n e : Nat} {x : Operand} {k : Nat} {r : List D} {i : TypeInfo} (ho : o.op = .slice t x none none none) (hx : ρ x = .elt k [r] 0 0) (hu : P.underlying t = some (.array n e)) (hi : P.info? e = some i) (hn : r.length = n) (h0 : 0 < n) (hm : n ≤ maxLen) : AYv P T o ρ h (.d (.slc 1 (r.map fun x => [x]))) := by
  intro G w a S hv Kc Q hK
  have hvx := hv x (by rw [ho]; simp [Op.operands])
  rw [hx] at hvx
  subst hn
  obtain ⟨ad, hu2, hd⟩ := hvx.sliceG h0 hm
  have hrun : (execOp a.eval o).run P w = .ok (.value (.slice (some ad) r.length r.length)) w := by
    unfold execOp
    simp only [ho]
    have ha : ad.add 0 = ad := by cases ad; simp [Addr.add]
    simp [hu2, Instr.sliceAt, run_underlying hu, Instr.sureAddr, Instr.sliceBounds, run_sizeOf hi, ha, Result.andThen]
  unfold Oper.wp
  rw [hrun]
  exact hK G _ w (Gle.refl G) S (.d hd)
theorem DW.sliceG {cp : Bool} {t n e : Nat} {x : Operand} {k : Nat} {r : List D} {i : TypeInfo} (ho : o.op = .slice t x none none none) (hg : o.guard = none) (hx : ev T sl x = .elt k [r] 0 0) (hu : P.underlying t = some (.array n e)) (hi : P.info? e = some i) (hn : r.length = n) (h0 : 0 < n) (hm : n ≤ maxLen)
    (H : DW P T cp ops rest (putA o.dst (.d (.slc 1 (r.map fun x => [x]))) sl) h K X) : DW P T cp ops (o :: rest) sl h K X := by
  have hy : ∀ h, AYv P T o (ev T sl) h (.d (.slc 1 (r.map fun x => [x]))) := fun h => AYv.sliceG ho hx hu hi hn h0 hm
  unfold DW
  rw [if_neg (by unfold effK; rw [hg, ho]; simp)]
  exact ⟨_, by unfold Yg; rw [hg]; exact hy h, fun _ h' => by unfold Yg; rw [hg]; exact hy h', H⟩
theorem LV.dw1 {pre : List Oper} (H : DW P T false ops [o] sl h (fun s h => LV P T ops pre s h K X) X) : LV P T ops (o :: pre) sl h K X := DW.listB pre [o] sl h H
theorem AWp.drawD {id : Nat} {l : List Oper} {Q : AQ} {sl : List AV} {h : AH} (cp : Bool) (ord : List Nat) (hm : P.follows .mixedOrders = true) (hB : ordOk cp l ord = true)
    (H : DW P T cp l.toArray (pick l ord) sl h (fun s h => Q .normal s h) (fun p h => ∀ s, Q (.pan p) s h)) : AWp P T (.region id l.toArray true) Q sl h := by
  simp only [ordOk, Bool.and_eq_true, beq_iff_eq] at hB
  obtain ⟨⟨hlen, hall⟩, hB⟩ := hB
  have hlt : ∀ i ∈ ord, i < l.length := fun i hi => by simpa using List.all_eq_true.1 hall i hi
  obtain ⟨h1, h2⟩ := pick_spec hlt
  refine AWp.of_lift fun G w a S R => wp_region_any hm ?_
  have hany := DW.any (P := P) (T := T) (K := fun s h => Q .normal s h) (X := fun p h => ∀ s, Q (.pan p) s h) ord (pick l ord) (Array.replicate l.length false) sl h h1 (fun n i e => by rw [h2 n i e]; simp) (fun j o _ hj => by
    simp [Array.getElem?_replicate] at hj
    split at hj <;> simp at hj) hB H
  rw [hlen] at hany
  have := AAny.wp _ _ _ _ hany G G w.drew a a.defers (Gle.refl G) S.drew R rfl
  simpa using this
theorem AWp.dsD {id : Nat} {l : List Oper} {y : Code} {Q : AQ} {sl : List AV} {h : AH} (cp : Bool) (ord : List Nat) (hm : P.follows .mixedOrders = true) (hB : ordOk cp l ord = true)
    (H : ∀ K : List AV → AH → Prop, (∀ s h, AWp P T y Q s h → K s h) → DW P T cp l.toArray (pick l ord) sl h K (fun p h => ∀ s, Q (.pan p) s h)) : AWp P T (.seq (.region id l.toArray true) y) Q sl h :=
  AWp.seq fun K hK => AWp.drawD cp ord hm hB (H K hK)
end
end Go.Proofs.YthpkjmbdjnelfaaDoor

namespace Go.Proofs.YthpkjmbdjnelfaaDoor
set_option linter.unusedSimpArgs false
set_option linter.unusedVariables false
abbrev Str := List UInt8
inductive Tst where
  | mk (kind mat part : Int) (names keys : List Str) (over : Bool) (limit : Int) (kids : List Tst)
  deriving Inhabited
def Tst.kind : Tst → Int | .mk k _ _ _ _ _ _ _ => k
def Tst.mat : Tst → Int | .mk _ k _ _ _ _ _ _ => k
def Tst.part : Tst → Int | .mk _ _ k _ _ _ _ _ => k
def Tst.names : Tst → List Str | .mk _ _ _ k _ _ _ _ => k
def Tst.keys : Tst → List Str | .mk _ _ _ _ k _ _ _ => k
def Tst.over : Tst → Bool | .mk _ _ _ _ _ k _ _ => k
def Tst.limit : Tst → Int | .mk _ _ _ _ _ _ k _ => k
def Tst.kids : Tst → List Tst | .mk _ _ _ _ _ _ _ k => k
mutual
def kidsD : Tst → List (List D)
  | .mk _ _ _ _ _ _ _ kids => kidsL kids
def kidsL : List Tst → List (List D)
  | [] => []
  | t :: l => [.int .i64 t.kind, .int .i64 t.mat, .int .i64 t.part, .slc 1 (t.names.map strD), .slc 1 (t.keys.map strD), .bool t.over, .int .i64 t.limit, .slc 8 (kidsD t)] :: kidsL l
end
/-- the cells of a test -/
def tstD (t : Tst) : List D := [.int .i64 t.kind, .int .i64 t.mat, .int .i64 t.part, .slc 1 (t.names.map strD), .slc 1 (t.keys.map strD), .bool t.over, .int .i64 t.limit, .slc 8 (kidsD t)]
def tstA (t : Tst) : List AV := [.d (.int .i64 t.kind), .d (.int .i64 t.mat), .d (.int .i64 t.part), .d (.slc 1 (t.names.map strD)), .d (.slc 1 (t.keys.map strD)), .d (.bool t.over), .d (.int .i64 t.limit), .d (.slc 8 (kidsD t))]
theorem kidsL_eq : ∀ l : List Tst, kidsL l = l.map tstD
  | [] => rfl
  | t :: l => by
    show _ :: kidsL l = tstD t :: l.map tstD
    rw [kidsL_eq l]
    rfl
theorem kidsD_eq (t : Tst) : kidsD t = t.kids.map tstD := by
  cases t
  exact kidsL_eq _
@[go_sem] theorem kidsD_len (t : Tst) : (kidsD t).length = t.kids.length := by rw [kidsD_eq, List.length_map]
theorem kidsD_get (t : Tst) (i : Nat) (d : List D) (h : i < t.kids.length) : (kidsD t).getD i d = tstD (t.kids[i]'h) := by rw [kidsD_eq]; exact map_getD tstD _ _ _ h
mutual
def Tst.rank : Tst → Nat
  | .mk _ _ _ _ _ _ _ kids => Tst.rankL kids + 1
def Tst.rankL : List Tst → Nat
  | [] => 0
  | t :: l => t.rank + Tst.rankL l
end
theorem Tst.rank_mem {x : Tst} : ∀ {l : List Tst}, x ∈ l → x.rank ≤ Tst.rankL l
  | y :: l, h => by
    unfold Tst.rankL
    rcases List.mem_cons.1 h with rfl | h
    · omega
    · have := Tst.rank_mem h; omega
theorem Tst.rank_kid {t x : Tst} (h : x ∈ t.kids) : x.rank < t.rank := by
  cases t
  have := Tst.rank_mem h
  show x.rank < Tst.rankL _ + 1
  exact Nat.lt_succ_of_le this
theorem Tst.ind {p : Tst → Prop} (h : ∀ t, (∀ x ∈ t.kids, p x) → p t) (t : Tst) : p t := by
  have : ∀ n t, Tst.rank t < n → p t := fun n => by
    induction n with
    | zero => intro t ht; omega
    | succ n ih => exact fun t ht => h t fun x hx => ih x (by have := Tst.rank_kid hx; omega)
  exact this _ t (Nat.lt_succ_self _)
/-- lists that may be copied -/
inductive Tst.Ok : Tst → Prop where
  | mk {t : Tst} (h1 : t.names.length * 16 ≤ 140737488355328) (h2 : t.keys.length * 16 ≤ 140737488355328) (h3 : t.kids.length * 112 ≤ 140737488355328) (h4 : ∀ x ∈ t.kids, Tst.Ok x) : Tst.Ok t
theorem Tst.Ok.inv {t : Tst} (h : t.Ok) : t.names.length * 16 ≤ 140737488355328 ∧ t.keys.length * 16 ≤ 140737488355328 ∧ t.kids.length * 112 ≤ 140737488355328 ∧ ∀ x ∈ t.kids, Tst.Ok x := by
  cases h; exact ⟨by assumption, by assumption, by assumption, by assumption⟩
inductive Cmd where
  | mk (kind : Int) (texts : List Str) (test : Tst) (thn els : List Cmd)
def Cmd.kind : Cmd → Int | .mk k _ _ _ _ => k
def Cmd.texts : Cmd → List Str | .mk _ k _ _ _ => k
def Cmd.test : Cmd → Tst | .mk _ _ k _ _ => k
def Cmd.thn : Cmd → List Cmd | .mk _ _ _ k _ => k
def Cmd.els : Cmd → List Cmd | .mk _ _ _ _ k => k
mutual
def thnD : Cmd → List (List D)
  | .mk _ _ _ l _ => cmdsL l
def elsD : Cmd → List (List D)
  | .mk _ _ _ _ l => cmdsL l
def cmdsL : List Cmd → List (List D)
  | [] => []
  | c :: l => (.int .i64 c.kind :: .slc 1 (c.texts.map strD) :: (tstD c.test ++ [.slc 12 (thnD c), .slc 12 (elsD c)])) :: cmdsL l
end
def cmdD (c : Cmd) : List D := .int .i64 c.kind :: .slc 1 (c.texts.map strD) :: (tstD c.test ++ [.slc 12 (thnD c), .slc 12 (elsD c)])
def cmdA (c : Cmd) : List AV := .d (.int .i64 c.kind) :: .d (.slc 1 (c.texts.map strD)) :: (tstA c.test ++ [.d (.slc 12 (thnD c)), .d (.slc 12 (elsD c))])
theorem cmdsL_eq : ∀ l : List Cmd, cmdsL l = l.map cmdD
  | [] => rfl
  | t :: l => by
    show _ :: cmdsL l = cmdD t :: l.map cmdD
    rw [cmdsL_eq l]
    rfl
theorem thnD_eq (c : Cmd) : thnD c = c.thn.map cmdD := by cases c; exact cmdsL_eq _
theorem elsD_eq (c : Cmd) : elsD c = c.els.map cmdD := by cases c; exact cmdsL_eq _
@[go_sem] theorem thnD_len (c : Cmd) : (thnD c).length = c.thn.length := by rw [thnD_eq, List.length_map]
@[go_sem] theorem elsD_len (c : Cmd) : (elsD c).length = c.els.length := by rw [elsD_eq, List.length_map]
mutual
def Cmd.rank : Cmd → Nat
  | .mk _ _ _ a b => Cmd.rankL a + Cmd.rankL b + 1
def Cmd.rankL : List Cmd → Nat
  | [] => 0
  | t :: l => t.rank + Cmd.rankL l + 1
end
theorem Cmd.rank_mem {x : Cmd} : ∀ {l : List Cmd}, x ∈ l → x.rank < Cmd.rankL l
  | y :: l, h => by
    unfold Cmd.rankL
    rcases List.mem_cons.1 h with rfl | h
    · omega
    · have := Cmd.rank_mem h; omega
theorem Cmd.rank_eq (c : Cmd) : c.rank = Cmd.rankL c.thn + Cmd.rankL c.els + 1 := by cases c; simp [Cmd.rank, Cmd.thn, Cmd.els]
theorem Cmd.ind {p : Cmd → Prop} (h : ∀ c, (∀ x ∈ c.thn, p x) → (∀ x ∈ c.els, p x) → p c) (c : Cmd) : p c := by
  have : ∀ n c, Cmd.rank c < n → p c := fun n => by
    induction n with
    | zero => intro t ht; omega
    | succ n ih => exact fun t ht => h t (fun x hx => ih x (by have := Cmd.rank_mem hx; rw [Cmd.rank_eq] at ht; omega)) fun x hx => ih x (by have := Cmd.rank_mem hx; rw [Cmd.rank_eq] at ht; omega)
  exact this _ c (Nat.lt_succ_self _)
inductive Cmd.Ok : Cmd → Prop where
  | mk {c : Cmd} (h1 : c.texts.length * 16 ≤ 140737488355328) (h2 : c.test.Ok) (h3 : c.thn.length * 208 ≤ 140737488355328) (h4 : c.els.length * 208 ≤ 140737488355328) (h5 : ∀ x ∈ c.thn, Cmd.Ok x) (h6 : ∀ x ∈ c.els, Cmd.Ok x) : Cmd.Ok c
theorem Cmd.Ok.inv {c : Cmd} (h : c.Ok) : c.texts.length * 16 ≤ 140737488355328 ∧ c.test.Ok ∧ c.thn.length * 208 ≤ 140737488355328 ∧ c.els.length * 208 ≤ 140737488355328 ∧ (∀ x ∈ c.thn, Cmd.Ok x) ∧ ∀ x ∈ c.els, Cmd.Ok x := by
  cases h; exact ⟨by assumption, by assumption, by assumption, by assumption, by assumption, by assumption⟩
attribute [go_sem] tstD tstA cmdD cmdA
end Go.Proofs.YthpkjmbdjnelfaaDoor

namespace Go.Proofs.YthpkjmbdjnelfaaDoor
open Go.RowKit
set_option linter.unusedSimpArgs false
set_option linter.unusedVariables false
section
variable {P : Program} {T : Tbl} {cp : Bool} {md : Region.Mode} {ops : Array Oper} {K : List AV → AH → Prop} {X : AV → AH → Prop}
/-- two operations in either order lead to the same -/
def PAIR (P : Program) (T : Tbl) (cp : Bool) (ops : Array Oper) (ox oy : Oper) (K : List AV → AH → Prop) (X : AV → AH → Prop) (s : List AV) (h : AH) : Prop :=
  ∃ S H, DW P T cp ops [ox, oy] s h (fun a b => a = S ∧ b = H) X ∧ DW P T cp ops [oy, ox] s h (fun a b => a = S ∧ b = H) X ∧ K S H
theorem AAny.pair {x y : Nat} {ox oy : Oper} {listed : Array Bool} {sl : List AV} {h : AH} (hx : ops[x]? = some ox) (hy : ops[y]? = some oy) (ex : effK cp ox = true) (ey : effK cp oy = true) (hdc : DC md ops listed)
    (hr : Region.ready md ops listed = [x, y]) (hxy : x ≠ y) (hbx : ordB cp md ops [y] (listed.setIfInBounds x true) = true) (hby : ordB cp md ops [x] (listed.setIfInBounds y true) = true) (H : PAIR P T cp ops ox oy K X sl h) : AAny P T cp md ops K X 2 listed sl h := by
  obtain ⟨S, H0, h1, h2, hk⟩ := H
  have hK : ∀ s h, s = S ∧ h = H0 → K s h := fun s h e => by rw [e.1, e.2]; exact hk
  have h1 := DW.monoK hK _ _ _ h1
  have h2 := DW.monoK hK _ _ _ h2
  have rx : x ∈ Region.ready md ops listed := by rw [hr]; simp
  have ry : y ∈ Region.ready md ops listed := by rw [hr]; simp
  refine ⟨fun h0 => (by rw [hr] at h0; cases h0), fun i hi => ?_⟩
  rw [hr] at hi
  have hi : i = x ∨ i = y := by simpa using hi
  rcases hi with rfl | rfl
  · unfold aOp
    rw [hx]
    dsimp only
    rw [if_pos ex]
    unfold DW at h1
    rw [if_pos ex] at h1
    exact h1.monoN fun r h' hN => DW.any [y] [oy] _ _ _ rfl (fun n k e => by
      cases n with
      | zero => simp at e; subst e; rw [hy]; rfl
      | succ n => simp at e) (hdc.step rx) hbx hN
  · unfold aOp
    rw [hy]
    dsimp only
    rw [if_pos ey]
    unfold DW at h2
    rw [if_pos ey] at h2
    exact h2.monoN fun r h' hN => DW.any [x] [ox] _ _ _ rfl (fun n k e => by
      cases n with
      | zero => simp at e; subst e; rw [hx]; rfl
      | succ n => simp at e) (hdc.step ry) hby hN
def CHQ (P : Program) (T : Tbl) (cp : Bool) (ops : Array Oper) (M : AH → Prop) (lz : List Oper) (ox oy : Oper) (K : List AV → AH → Prop) (X : AV → AH → Prop) : List Oper → List AV → AH → Prop
  | [], s, h => DW P T cp ops lz s h (PAIR P T cp ops ox oy K X) X
  | o :: l, s, h => DW P T cp ops [o] s h (fun s2 h2 => M h2 ∧ CHQ P T cp ops M lz ox oy K X l s2 h2) X
def ordCP (cp : Bool) (md : Region.Mode) (ops : Array Oper) (e0 : Nat) (ord2 : List Nat) (x y : Nat) : List Nat → Array Bool → Bool
  | [], listed =>
    let L1 := listed.setIfInBounds e0 true
    let L2 := lst ord2 L1
    (Region.ready md ops listed == [e0]) && ordPre cp md ops ord2 L1 && (Region.ready md ops L2 == [x, y]) && !(x == y) && ordB cp md ops [y] (L2.setIfInBounds x true) && ordB cp md ops [x] (L2.setIfInBounds y true)
  | i :: r, listed => (Region.ready md ops listed == [i]) && ordCP cp md ops e0 ord2 x y r (listed.setIfInBounds i true)
theorem CHP.any {e0 : Nat} {oe : Oper} {M : AH → Prop} {ord2 : List Nat} {l2 : List Oper} {x y : Nat} {ox oy : Oper} (hoe : ops[e0]? = some oe) (hee : effK cp oe = true) (hl2 : l2.length = ord2.length) (hm2 : ∀ (n i : Nat), ord2[n]? = some i → l2[n]? = ops[i]?) (hx : ops[x]? = some ox) (hy : ops[y]? = some oy) (ex : effK cp ox = true) (ey : effK cp oy = true) : ∀ (ord : List Nat) (l : List Oper) (listed : Array Bool) (sl : List AV) (h : AH), l.length = ord.length → (∀ (n i : Nat), ord[n]? = some i → l[n]? = ops[i]?) → DC md ops listed → ordCP cp md ops e0 ord2 x y ord listed = true → M h →
    CHQ P T cp ops M (oe :: l2) ox oy K X l sl h → AAnyM P T cp md ops e0 M K X (ord.length + (ord2.length + 2 + 1)) listed sl h
  | [], [], listed, sl, h, _, _, hdc, hB, hM, H => by
    unfold ordCP at hB
    simp only [Bool.and_eq_true] at hB
    obtain ⟨⟨⟨⟨⟨hf, hB'⟩, hpx⟩, hpy⟩, hpa⟩, hpb⟩ := hB
    have hone : Region.ready md ops listed = [e0] := by simpa using hf
    have hr : e0 ∈ Region.ready md ops listed := by rw [hone]; exact List.mem_cons_self ..
    rw [List.length_nil, Nat.zero_add]
    refine ⟨fun _ => hM, fun h0 => (by rw [h0] at hr; cases hr), fun j hj => ?_⟩
    rw [hone] at hj
    have hj : j = e0 := by simpa using hj
    subst hj
    unfold aOp
    rw [hoe]
    dsimp only
    rw [if_pos hee]
    have H : DW P T cp ops (oe :: l2) sl h (PAIR P T cp ops ox oy K X) X := H
    unfold DW at H
    rw [if_pos hee] at H
    have hlt : j < listed.size := by
      rcases Nat.lt_or_ge j listed.size with h1 | h1
      · exact h1
      · have := (mem_ready.1 hr).1
        simp [Array.getElem?_eq_none h1] at this
    exact H.monoN fun r h' hN => AAny.toM _ _ _ _ (by simp [hlt]) (DW.anyP ord2 l2 _ _ _ hl2 hm2 (hdc.step hr) hB' (DW.monoK (fun s h hp => AAny.pair hx hy ex ey ((hdc.step hr).lst (cp := cp) ord2 hB') (by simpa using hpx) (by simpa using hpy) hpa hpb hp) _ _ _ hN))
  | [], _ :: _, _, _, _, hl, _, _, _, _, _ => by simp at hl
  | _ :: _, [], _, _, _, hl, _, _, _, _, _ => by simp at hl
  | i :: ord, o :: l, listed, sl, h, hl, hmap, hdc, hB, hM, H => by
    have hi : ops[i]? = some o := (hmap 0 i rfl).symm
    unfold ordCP at hB
    simp only [Bool.and_eq_true] at hB
    obtain ⟨hf, hB'⟩ := hB
    have hone : Region.ready md ops listed = [i] := by simpa using hf
    have hr : i ∈ Region.ready md ops listed := by rw [hone]; exact List.mem_cons_self ..
    rw [List.length_cons, Nat.succ_add]
    have next : ∀ (s2 : List AV) (h2 : AH), M h2 ∧ CHQ P T cp ops M (oe :: l2) ox oy K X l s2 h2 → AAnyM P T cp md ops e0 M K X (ord.length + (ord2.length + 2 + 1)) (listed.setIfInBounds i true) s2 h2 := fun s2 h2 hN =>
      CHP.any hoe hee hl2 hm2 hx hy ex ey ord l _ _ _ (by simpa using hl) (fun n k e => by simpa using hmap (n + 1) k (by simpa using e)) (hdc.step hr) hB' hN.1 hN.2
    refine ⟨fun _ => hM, fun h0 => (by rw [h0] at hr; cases hr), fun j hj => ?_⟩
    rw [hone] at hj
    have hj : j = i := by simpa using hj
    subst hj
    have H : DW P T cp ops [o] sl h (fun s2 h2 => M h2 ∧ CHQ P T cp ops M (oe :: l2) ox oy K X l s2 h2) X := H
    unfold DW at H
    unfold aOp
    rw [hi]
    dsimp only
    split
    · rename_i he
      rw [if_pos he] at H
      refine H.monoN fun r h' hN => ?_
      unfold DW at hN
      exact next _ _ hN
    · rename_i he
      rw [if_neg he] at H
      obtain ⟨v, g1, g2, g3⟩ := H
      unfold DW at g3
      exact ⟨v, g1, g2, next _ _ g3⟩
def ordOkP (cp : Bool) (ops : List Oper) (ord1 fr cs : List Nat) (e0 : Nat) (ord2 : List Nat) (x y : Nat) : Bool :=
  let A := ops.toArray
  let L0 := Array.replicate ops.length false
  let L1 := lst ord1 L0
  ord1.length + (fr.length + (cs.length + (ord2.length + 2 + 1))) == ops.length && ord1.all (fun i => decide (i < ops.length)) && cs.all (fun i => decide (i < ops.length)) && fr.all (fun i => decide (i < ops.length)) && ord2.all (fun i => decide (i < ops.length)) && ordPre cp .any A ord1 L0 && (match ops[e0]? with | some o => effK cp o | none => false) && ordFN cp .any A e0 fr L1 && ordCP cp .any A e0 ord2 x y cs (lst fr L1) && (match ops[x]?, ops[y]? with | some a, some b => effK cp a && effK cp b | _, _ => false)
theorem AWp.drawP {id : Nat} {l : List Oper} {Q : AQ} {sl : List AV} {h : AH} (cp : Bool) (ord1 fr cs : List Nat) (e0 : Nat) (ord2 : List Nat) (x y : Nat) {oe ox oy : Oper} (hm : P.follows .mixedOrders = true) (hB : ordOkP cp l ord1 fr cs e0 ord2 x y = true) (hoe : l[e0]? = some oe) (hox : l[x]? = some ox) (hoy : l[y]? = some oy)
    (H : lvc P T cp l.toArray (pick l ord1) sl h (fun s1 h1 => ∃ M : AH → Prop, M h1 ∧ FRN P T l.toArray M (fun s2 => CHQ P T cp l.toArray M (oe :: pick l ord2) ox oy (fun s h => Q .normal s h) (fun p h => ∀ s, Q (.pan p) s h) (pick l cs) s2 h1) (pick l fr) s1) (fun p h => ∀ s, Q (.pan p) s h)) :
    AWp P T (.region id l.toArray true) Q sl h := by
  simp only [ordOkP, hoe, hox, hoy, Bool.and_eq_true, beq_iff_eq] at hB
  obtain ⟨⟨⟨⟨⟨⟨⟨⟨⟨hlen, hall1⟩, hall2⟩, hall3⟩, hall4⟩, hpre⟩, hee⟩, hch⟩, hbb⟩, hex, hey⟩ := hB
  have hlt1 : ∀ i ∈ ord1, i < l.length := fun i hi => by simpa using List.all_eq_true.1 hall1 i hi
  have hlt2 : ∀ i ∈ cs, i < l.length := fun i hi => by simpa using List.all_eq_true.1 hall2 i hi
  have hlt3 : ∀ i ∈ fr, i < l.length := fun i hi => by simpa using List.all_eq_true.1 hall3 i hi
  have hlt4 : ∀ i ∈ ord2, i < l.length := fun i hi => by simpa using List.all_eq_true.1 hall4 i hi
  obtain ⟨p1, p2⟩ := pick_spec hlt1
  obtain ⟨q1, q2⟩ := pick_spec hlt2
  obtain ⟨r1, r2⟩ := pick_spec hlt3
  obtain ⟨z1, z2⟩ := pick_spec hlt4
  have hdc0 : DC .any l.toArray (Array.replicate l.length false) := fun j o _ hj => by
    simp [Array.getElem?_replicate] at hj
    split at hj <;> simp at hj
  refine AWp.of_lift fun G w a S R => wp_region_any hm ?_
  have hany := DW.anyP (P := P) (T := T) (cp := cp) (K := fun s h => Q .normal s h) (X := fun p h => ∀ s, Q (.pan p) s h) (fuel := fr.length + (cs.length + (ord2.length + 2 + 1))) ord1 (pick l ord1) (Array.replicate l.length false) sl h p1 (fun n i e => by rw [p2 n i e]; simp) hdc0 hpre
    (DW.monoK (fun s1 h1 ⟨M, hM, hh⟩ => AAnyM.any (M := M) (e0 := e0) _ _ _ _ (AAnyM.frn ⟨oe, by simpa using hoe⟩ fr (pick l fr) _ s1 r1 (fun n c e => by rw [r2 n c e]; simp) (hdc0.lst (cp := cp) ord1 hpre) hch (fun s hdc hs => CHP.any (oe := oe) (l2 := pick l ord2) (by simpa using hoe) hee z1 (fun n c e => by rw [z2 n c e]; simp) (x := x) (y := y) (ox := ox) (oy := oy) (by simpa using hox) (by simpa using hoy) hex hey cs (pick l cs) _ s h1 q1 (fun n i e => by rw [q2 n i e]; simp) hdc hbb hM hs) hh)) _ _ _ (lvc_ok _ _ _ H))
  rw [hlen] at hany
  have := AAny.wp _ _ _ _ hany G G w.drew a a.defers (Gle.refl G) S.drew R rfl
  simpa using this
theorem AWp.dsP {id : Nat} {l : List Oper} {yc : Code} {Q : AQ} {sl : List AV} {h : AH} (cp : Bool) (ord1 fr cs : List Nat) (e0 : Nat) (ord2 : List Nat) (x y : Nat) {oe ox oy : Oper} (hm : P.follows .mixedOrders = true) (hB : ordOkP cp l ord1 fr cs e0 ord2 x y = true) (hoe : l[e0]? = some oe) (hox : l[x]? = some ox) (hoy : l[y]? = some oy)
    (H : ∀ K : List AV → AH → Prop, (∀ s h, AWp P T yc Q s h → K s h) → lvc P T cp l.toArray (pick l ord1) sl h (fun s1 h1 => ∃ M : AH → Prop, M h1 ∧ FRN P T l.toArray M (fun s2 => CHQ P T cp l.toArray M (oe :: pick l ord2) ox oy K (fun p h => ∀ s, Q (.pan p) s h) (pick l cs) s2 h1) (pick l fr) s1) (fun p h => ∀ s, Q (.pan p) s h)) :
    AWp P T (.seq (.region id l.toArray true) yc) Q sl h := AWp.seq fun K hK => AWp.drawP cp ord1 fr cs e0 ord2 x y hm hB hoe hox hoy (H K hK)
theorem AWp.dkP {id : Nat} {l : List Oper} {Q : AQ} {sl : List AV} {h : AH} (cp : Bool) (ord1 fr cs : List Nat) (e0 : Nat) (ord2 : List Nat) (x y : Nat) {oe ox oy : Oper} (hm : P.follows .mixedOrders = true) (hB : ordOkP cp l ord1 fr cs e0 ord2 x y = true) (hoe : l[e0]? = some oe) (hox : l[x]? = some ox) (hoy : l[y]? = some oy)
    (H : ∀ K : List AV → AH → Prop, (∀ s h, Q .normal s h → K s h) → lvc P T cp l.toArray (pick l ord1) sl h (fun s1 h1 => ∃ M : AH → Prop, M h1 ∧ FRN P T l.toArray M (fun s2 => CHQ P T cp l.toArray M (oe :: pick l ord2) ox oy K (fun p h => ∀ s, Q (.pan p) s h) (pick l cs) s2 h1) (pick l fr) s1) (fun p h => ∀ s, Q (.pan p) s h)) :
    AWp P T (.region id l.toArray true) Q sl h := AWp.drawP cp ord1 fr cs e0 ord2 x y hm hB hoe hox hoy (H _ fun _ _ h => h)
theorem AWp.dkN {id : Nat} {l : List Oper} {Q : AQ} {sl : List AV} {h : AH} (cp : Bool) (ord1 fr cs : List Nat) (e0 : Nat) (ord2 : List Nat) {oe : Oper} (hm : P.follows .mixedOrders = true) (hB : ordOkN cp l ord1 fr cs e0 ord2 = true) (hoe : l[e0]? = some oe)
    (H : ∀ K : List AV → AH → Prop, (∀ s h, Q .normal s h → K s h) → lvc P T cp l.toArray (pick l ord1) sl h (fun s1 h1 => ∃ M : AH → Prop, M h1 ∧ FRN P T l.toArray M (fun s2 => CHN P T cp l.toArray M (oe :: pick l ord2) K (fun p h => ∀ s, Q (.pan p) s h) (pick l cs) s2 h1) (pick l fr) s1) (fun p h => ∀ s, Q (.pan p) s h)) :
    AWp P T (.region id l.toArray true) Q sl h := AWp.drawN cp ord1 fr cs e0 ord2 hm hB hoe (H _ fun _ _ h => h)
end
attribute [go_sem] CHQ
end Go.Proofs.YthpkjmbdjnelfaaDoor

namespace Go.Proofs.YthpkjmbdjnelfaaDoor
open Go.RowKit
set_option linter.unusedSimpArgs false
set_option linter.unusedVariables false
section
variable {P : Program} {T : Tbl} {cp : Bool} {md : Region.Mode} {ops : Array Oper} {K : List AV → AH → Prop} {X : AV → AH → Prop}
theorem AWp.drawPA {id : Nat} {l : List Oper} {Q : AQ} {sl : List AV} {h : AH} (ks : List (Nat × AV)) (hag : AgK ks sl) (hok : agOk ks l = true) (cp : Bool) (ord1 fr cs : List Nat) (e0 : Nat) (ord2 : List Nat) (x y : Nat) {oe ox oy : Oper} (hm : P.follows .mixedOrders = true) (hB : ordOkP cp l ord1 fr cs e0 ord2 x y = true) (hoe : l[e0]? = some oe) (hox : l[x]? = some ox) (hoy : l[y]? = some oy)
    (H : lvc P T cp l.toArray (pick l ord1) sl h (fun s1 h1 => ∃ M : AH → Prop, M h1 ∧ FRN P T l.toArray M (fun s2 => CHQ P T cp l.toArray M (oe :: pick l ord2) ox oy (fun s h => Q .normal s h) (fun p h => ∀ s, AgK ks s → Q (.pan p) s h) (pick l cs) s2 h1) (pick l fr) s1) (fun p h => ∀ s, AgK ks s → Q (.pan p) s h)) :
    AWp P T (.region id l.toArray true) Q sl h := by
  simp only [ordOkP, hoe, hox, hoy, Bool.and_eq_true, beq_iff_eq] at hB
  obtain ⟨⟨⟨⟨⟨⟨⟨⟨⟨hlen, hall1⟩, hall2⟩, hall3⟩, hall4⟩, hpre⟩, hee⟩, hch⟩, hbb⟩, hex, hey⟩ := hB
  have hlt1 : ∀ i ∈ ord1, i < l.length := fun i hi => by simpa using List.all_eq_true.1 hall1 i hi
  have hlt2 : ∀ i ∈ cs, i < l.length := fun i hi => by simpa using List.all_eq_true.1 hall2 i hi
  have hlt3 : ∀ i ∈ fr, i < l.length := fun i hi => by simpa using List.all_eq_true.1 hall3 i hi
  have hlt4 : ∀ i ∈ ord2, i < l.length := fun i hi => by simpa using List.all_eq_true.1 hall4 i hi
  obtain ⟨p1, p2⟩ := pick_spec hlt1
  obtain ⟨q1, q2⟩ := pick_spec hlt2
  obtain ⟨r1, r2⟩ := pick_spec hlt3
  obtain ⟨z1, z2⟩ := pick_spec hlt4
  have hdc0 : DC .any l.toArray (Array.replicate l.length false) := fun j o _ hj => by
    simp [Array.getElem?_replicate] at hj
    split at hj <;> simp at hj
  refine AWp.of_liftA ks fun G w a S R => wp_region_any hm ?_
  have hany := DW.anyP (P := P) (T := T) (cp := cp) (K := fun s h => Q .normal s h) (X := fun p h => ∀ s, AgK ks s → Q (.pan p) s h) (fuel := fr.length + (cs.length + (ord2.length + 2 + 1))) ord1 (pick l ord1) (Array.replicate l.length false) sl h p1 (fun n i e => by rw [p2 n i e]; simp) hdc0 hpre
    (DW.monoK (fun s1 h1 ⟨M, hM, hh⟩ => AAnyM.any (M := M) (e0 := e0) _ _ _ _ (AAnyM.frn ⟨oe, by simpa using hoe⟩ fr (pick l fr) _ s1 r1 (fun n c e => by rw [r2 n c e]; simp) (hdc0.lst (cp := cp) ord1 hpre) hch (fun s hdc hs => CHP.any (oe := oe) (l2 := pick l ord2) (by simpa using hoe) hee z1 (fun n c e => by rw [z2 n c e]; simp) (x := x) (y := y) (ox := ox) (oy := oy) (by simpa using hox) (by simpa using hoy) hex hey cs (pick l cs) _ s h1 q1 (fun n i e => by rw [q2 n i e]; simp) hdc hbb hM hs) hh)) _ _ _ (lvc_ok _ _ _ H))
  rw [hlen] at hany
  have := AAny.wpA (ops := l.toArray) (by simpa using hok) _ _ _ _ hag hany G G w.drew a a.defers (Gle.refl G) S.drew R rfl
  simpa using this
theorem AWp.dkPA {id : Nat} {l : List Oper} {Q : AQ} {sl : List AV} {h : AH} (ks : List (Nat × AV)) (hag : AgK ks sl) (hok : agOk ks l = true) (cp : Bool) (ord1 fr cs : List Nat) (e0 : Nat) (ord2 : List Nat) (x y : Nat) {oe ox oy : Oper} (hm : P.follows .mixedOrders = true) (hB : ordOkP cp l ord1 fr cs e0 ord2 x y = true) (hoe : l[e0]? = some oe) (hox : l[x]? = some ox) (hoy : l[y]? = some oy)
    (H : ∀ K : List AV → AH → Prop, (∀ s h, Q .normal s h → K s h) → lvc P T cp l.toArray (pick l ord1) sl h (fun s1 h1 => ∃ M : AH → Prop, M h1 ∧ FRN P T l.toArray M (fun s2 => CHQ P T cp l.toArray M (oe :: pick l ord2) ox oy K (fun p h => ∀ s, AgK ks s → Q (.pan p) s h) (pick l cs) s2 h1) (pick l fr) s1) (fun p h => ∀ s, AgK ks s → Q (.pan p) s h)) :
    AWp P T (.region id l.toArray true) Q sl h := AWp.drawPA ks hag hok cp ord1 fr cs e0 ord2 x y hm hB hoe hox hoy (H _ fun _ _ h => h)
end
end Go.Proofs.YthpkjmbdjnelfaaDoor

namespace Go.Proofs.YthpkjmbdjnelfaaDoor
set_option linter.unusedSimpArgs false
set_option linter.unusedVariables false
set_option maxRecDepth 4000 in
set_option maxHeartbeats 1000000 in
theorem sameTexts_c (T : Tbl) (a b : List (List UInt8)) : PC Tryd.prog T 94 [.d (strs a), .d (strs b)] (.d (.bool (decide (a = b)))) := by
  refine ⟨Tryd.call94, PCall.enter Tryd.func94 rfl Tryd.ntmps94 fun hb => ?_⟩
  have ha : a.length ≤ 9223372036854775807 := by
    have := (DB.slc_inv (hb _ (List.mem_cons_self ..))).1
    rw [List.length_map] at this
    exact this
  try simp only [go_sem, Tryd.results94]
  refine AWp.rs fun K1 hK1 => ?_
  try simp only [go_sem]
  refine hK1 _ _ ?_
  try clear hK1 K1
  refine AWp.seq fun K2 hK2 => ?_
  refine AWp.rs fun K3 hK3 => ?_
  try simp only [go_sem]
  refine hK3 _ _ ?_
  try clear hK3 K3
  refine AWp.cond _ rfl (fun hc0 => ?_) (fun hc0 => ?_)
  · skip
    refine AWp.rs fun K4 hK4 => ?_
    try simp only [go_sem]
    refine hK4 _ _ ?_
    try clear hK4 K4
    refine AWp.ret ?_
    try simp only [go_sem]
    rw [eq_comm, decide_eq_false_iff_not]
    rintro rfl
    simp at hc0
  · skip
    have hlen : a.length = b.length := by simp at hc0; omega
    refine AWp.skip ?_
    refine thenQ_n ?_
    refine hK2 _ _ ?_
    try clear hK2 K2
    refine AWp.seq fun K5 hK5 => ?_
    refine AWp.rs fun K6 hK6 => ?_
    try simp only [go_sem]
    refine hK6 _ _ ?_
    try clear hK6 K6
    refine AWp.block ?_
    refine AWp.loop [0, 1, 4, 5] (fun n s h => ∃ k : Nat, k ≤ a.length ∧ a.take k = b.take k ∧ n = a.length - k ∧ s = [.d (strs a), .d (strs b), .any, .any, .d (.bool false), .d (.int .i64 k), .any, .any, .any, .any, .any, .any, .any, .any, .any, .any, .any, .any, .any, .any, .any, .any, .any, .any, .any, .any] ∧ h = ⟨[], []⟩) ⟨_, 0, Nat.zero_le _, rfl, rfl, rfl, rfl⟩ ?_
    rintro n s h ⟨k, hk, htk, rfl, rfl, rfl⟩
    refine AWp.seq fun K7 hK7 => ?_
    refine AWp.rs fun K8 hK8 => ?_
    try simp only [go_sem]
    refine hK8 _ _ ?_
    try clear hK8 K8
    refine AWp.cond _ rfl (fun hc1 => ?_) (fun hc1 => ?_)
    · skip
      have hlt : k < a.length := by simpa using hc1
      have hlt2 : k < b.length := by omega
      refine AWp.skip ?_
      refine thenQ_n ?_
      refine hK7 _ _ ?_
      try clear hK7 K7
      refine AWp.seq fun K9 hK9 => ?_
      refine AWp.block ?_
      refine AWp.ds true [0, 1, 2, 3, 4, 5, 6, 7, 8] rfl (by kernel_rfl) fun K10 hK10 => ?_
      try simp only [go_sem, map_getD strD _ _ _ hlt, map_getD strD _ _ _ hlt2]
      (repeat (with_reducible refine And.intro ?_ ?_; omega))
      refine hK10 _ _ ?_
      try clear hK10 K10
      refine AWp.cond _ rfl (fun hc2 => ?_) (fun hc2 => ?_)
      · skip
        refine AWp.rs fun K11 hK11 => ?_
        try simp only [go_sem]
        refine hK11 _ _ ?_
        try clear hK11 K11
        refine AWp.ret ?_
        try simp only [go_sem]
        rw [eq_comm, decide_eq_false_iff_not]
        rintro rfl
        simp at hc2
      · skip
        refine AWp.skip ?_
        refine blkQ_n (thenQ_n ?_)
        refine hK9 _ _ ?_
        try clear hK9 K9
        refine AWp.rk fun K12 hK12 => ?_
        try simp only [go_sem]
        (repeat (with_reducible refine And.intro ?_ ?_; omega))
        refine hK12 _ _ ?_
        try clear hK12 K12
        refine thenQ_n ?_
        have heq : a[k] = b[k] := by simpa using hc2
        refine ⟨_, 0, 0, ?_, k + 1, by omega, ?_, rfl, rfl, rfl⟩
        · omega
        · rw [List.take_succ_eq_append_getElem hlt, List.take_succ_eq_append_getElem hlt2, htk, heq]
    · skip
      refine AWp.exit ?_
      refine thenQ_e (thenQ_e (blkQ_e (thenQ_n ?_)))
      refine hK5 _ _ ?_
      try clear hK5 K5
      refine AWp.rs fun K13 hK13 => ?_
      try simp only [go_sem]
      refine hK13 _ _ ?_
      try clear hK13 K13
      refine AWp.ret ?_
      try simp only [go_sem]
      rw [eq_comm, decide_eq_true_iff]
      have hk2 : k = a.length := by simp at hc1; omega
      subst hk2
      rw [List.take_length, hlen, List.take_length] at htk
      exact htk
theorem sameTexts_r (T : Tbl) (l : List Str) : PC Tryd.prog T 94 [.d (.slc 1 (l.map strD)), .d (.slc 1 (l.map strD))] (.d (.bool true)) := by
  have := sameTexts_c T l l
  rwa [decide_eq_true rfl] at this
set_option maxRecDepth 4000 in
set_option maxHeartbeats 1000000 in
theorem sameTest_step (T : Tbl) (t : Tst) (ok : t.Ok) (ih : ∀ x ∈ t.kids, PC Tryd.prog T 95 [.agg (tstA x), .agg (tstA x)] (.d (.bool true))) : PC Tryd.prog T 95 [.agg (tstA t), .agg (tstA t)] (.d (.bool true)) := by
  refine ⟨Tryd.call95, PCall.enter Tryd.func95 rfl Tryd.ntmps95 fun hb => ?_⟩
  obtain ⟨s1, s2, s3, s4⟩ := ok.inv
  try simp only [go_sem, Tryd.results95]
  refine AWp.rs fun K1 hK1 => ?_
  try simp only [go_sem]
  intro b1 fb1
  try simp only [freshL] at fb1
  intro b2 fb2
  try simp only [freshL] at fb2
  refine hK1 _ _ ?_
  try clear hK1 K1
  refine AWp.seq fun K4 hK4 => ?_
  refine AWp.rs fun K5 hK5 => ?_
  try simp only [go_sem, fb2]
  (repeat (with_reducible refine And.intro ?_ ?_; decide))
  refine DW.pcgr rfl rfl rfl rfl rfl (fun hg => sameTexts_r T _) (fun hg => by (try simp only [go_sem]) <;> first | exact hg | (simpa using hg) | grind) rfl rfl ?_
  try simp only [go_sem, fb2]
  (repeat (with_reducible refine And.intro ?_ ?_; decide))
  refine DW.pcgr rfl rfl rfl rfl rfl (fun hg => sameTexts_r T _) (fun hg => by (try simp only [go_sem]) <;> first | exact hg | (simpa using hg) | grind) rfl rfl ?_
  try simp only [go_sem, fb2]
  (repeat (with_reducible refine And.intro ?_ ?_; decide))
  refine hK5 _ _ ?_
  try clear hK5 K5
  refine AWp.cond _ rfl (fun hc0 => ?_) (fun hc0 => ?_)
  · skip
    simp at hc0
  · skip
    refine AWp.skip ?_
    refine thenQ_n ?_
    refine hK4 _ _ ?_
    try clear hK4 K4
    refine AWp.seq fun K6 hK6 => ?_
    refine AWp.rs fun K7 hK7 => ?_
    try simp only [go_sem]
    refine hK7 _ _ ?_
    try clear hK7 K7
    refine AWp.block ?_
    refine AWp.loop [2, 3, 5] (fun n s h => ∃ (k : Nat), k ≤ t.kids.length ∧ n = t.kids.length - k ∧ s = [.any, .any, .ptr b1 8 0 0, .ptr b2 8 0 0, .any, .d (.int .i64 k), .any, .any, .any, .any, .any, .any, .any, .any, .any, .any, .any, .any, .any, .any, .any, .any, .any, .any, .any, .any, .any, .any, .any, .any, .any, .any, .any, .any, .any, .any, .any, .any, .any, .any, .any, .any, .any, .any, .any, .any, .any, .any, .any, .any, .any, .any, .any, .any, .any, .any, .any, .any, .any, .any, .any, .any, .any, .any, .any, .any, .any, .any, .any, .any, .any, .any, .any, .any, .any, .any, .any, .any, .any, .any, .any, .any, .any] ∧ h = ⟨[(b2, ⟨8, 1, [tstA t]⟩), (b1, ⟨8, 1, [tstA t]⟩)], []⟩) ⟨_, 0, Nat.zero_le _, rfl, rfl, rfl⟩ ?_
    rintro n s h ⟨k, hk, rfl, rfl, rfl⟩
    try simp only [go_sem]
    refine AWp.seq fun K8 hK8 => ?_
    refine AWp.rs fun K9 hK9 => ?_
    try simp only [go_sem, fb2]
    refine hK9 _ _ ?_
    try clear hK9 K9
    refine AWp.cond _ rfl (fun hc1 => ?_) (fun hc1 => ?_)
    · skip
      have hlt : k < t.kids.length := by simpa using hc1
      refine AWp.skip ?_
      refine thenQ_n ?_
      refine hK8 _ _ ?_
      try clear hK8 K8
      refine AWp.seq fun K10 hK10 => ?_
      refine AWp.block ?_
      refine AWp.ds true [0, 1, 2, 3, 4, 5, 6, 7, 8, 9, 10, 11] rfl (by kernel_rfl) fun K11 hK11 => ?_
      try simp only [go_sem, fb2, kidsD_get t k _ hlt]
      (repeat (with_reducible refine And.intro ?_ ?_; omega))
      refine DW.pcr rfl rfl rfl rfl (ih _ (List.getElem_mem hlt)) rfl rfl ?_
      try simp only [go_sem]
      refine hK11 _ _ ?_
      try clear hK11 K11
      refine AWp.cond _ rfl (fun hc2 => ?_) (fun hc2 => ?_)
      · skip
        simp at hc2
      · skip
        refine AWp.skip ?_
        refine blkQ_n (thenQ_n ?_)
        refine hK10 _ _ ?_
        try clear hK10 K10
        refine AWp.rk fun K12 hK12 => ?_
        try simp only [go_sem]
        (repeat (with_reducible refine And.intro ?_ ?_; omega))
        refine hK12 _ _ ?_
        try clear hK12 K12
        refine thenQ_n ?_
        refine ⟨_, 0, 0, ?_, k + 1, by omega, rfl, rfl, rfl⟩
        omega
    · skip
      refine AWp.exit ?_
      refine thenQ_e (thenQ_e (blkQ_e (thenQ_n ?_)))
      refine hK6 _ _ ?_
      try clear hK6 K6
      refine AWp.rs fun K13 hK13 => ?_
      try simp only [go_sem]
      refine hK13 _ _ ?_
      try clear hK13 K13
      refine AWp.ret ?_
      try simp only [go_sem]
      all_goals done
theorem sameTest_c (T : Tbl) (t : Tst) (ok : t.Ok) : PC Tryd.prog T 95 [.agg (tstA t), .agg (tstA t)] (.d (.bool true)) := by
  induction t using Tst.ind with
  | h t ih => exact sameTest_step T t ok fun x hx => ih x hx (ok.inv.2.2.2 x hx)
set_option maxRecDepth 4000 in
set_option maxHeartbeats 1000000 in
theorem sameCommands_step (T : Tbl) (l : List Cmd) (hl : l.length * 208 ≤ 140737488355328) (ih : ∀ x ∈ l, PC Tryd.prog T 45 [.agg (cmdA x), .agg (cmdA x)] (.d (.bool true))) : PC Tryd.prog T 20 [.d (.slc 12 (l.map cmdD)), .d (.slc 12 (l.map cmdD))] (.d (.bool true)) := by
  refine ⟨Tryd.call20, PCall.enter Tryd.func20 rfl Tryd.ntmps20 fun hb => ?_⟩
  try simp only [go_sem, Tryd.results20]
  refine AWp.rs fun K1 hK1 => ?_
  try simp only [go_sem]
  refine hK1 _ _ ?_
  try clear hK1 K1
  refine AWp.seq fun K2 hK2 => ?_
  refine AWp.rs fun K3 hK3 => ?_
  try simp only [go_sem]
  refine hK3 _ _ ?_
  try clear hK3 K3
  refine AWp.cond _ rfl (fun hc0 => ?_) (fun hc0 => ?_)
  · skip
    simp at hc0
  · skip
    refine AWp.skip ?_
    refine thenQ_n ?_
    refine hK2 _ _ ?_
    try clear hK2 K2
    refine AWp.seq fun K4 hK4 => ?_
    refine AWp.rs fun K5 hK5 => ?_
    try simp only [go_sem]
    refine hK5 _ _ ?_
    try clear hK5 K5
    refine AWp.block ?_
    refine AWp.loop [0, 1, 5] (fun n s h => ∃ (k : Nat), k ≤ l.length ∧ n = l.length - k ∧ s = [.d (.slc 12 (l.map cmdD)), .d (.slc 12 (l.map cmdD)), .any, .any, .any, .d (.int .i64 k), .any, .any, .any, .any, .any, .any, .any, .any, .any, .any, .any, .any, .any, .any, .any, .any, .any, .any, .any, .any, .any] ∧ h = ⟨[], []⟩) ⟨_, 0, Nat.zero_le _, rfl, rfl, rfl⟩ ?_
    rintro n s h ⟨k, hk, rfl, rfl, rfl⟩
    refine AWp.seq fun K6 hK6 => ?_
    refine AWp.rs fun K7 hK7 => ?_
    try simp only [go_sem]
    refine hK7 _ _ ?_
    try clear hK7 K7
    refine AWp.cond _ rfl (fun hc1 => ?_) (fun hc1 => ?_)
    · skip
      have hlt : k < l.length := by simpa using hc1
      refine AWp.skip ?_
      refine thenQ_n ?_
      refine hK6 _ _ ?_
      try clear hK6 K6
      refine AWp.seq fun K8 hK8 => ?_
      refine AWp.block ?_
      refine AWp.ds true [0, 1, 2, 3, 4, 5, 6, 7, 8, 9] rfl (by kernel_rfl) fun K9 hK9 => ?_
      try simp only [go_sem, map_getD cmdD _ _ _ hlt]
      (repeat (with_reducible refine And.intro ?_ ?_; omega))
      refine DW.pcr rfl rfl rfl rfl (ih _ (List.getElem_mem hlt)) rfl rfl ?_
      try simp only [go_sem]
      refine hK9 _ _ ?_
      try clear hK9 K9
      refine AWp.cond _ rfl (fun hc2 => ?_) (fun hc2 => ?_)
      · skip
        simp at hc2
      · skip
        refine AWp.skip ?_
        refine blkQ_n (thenQ_n ?_)
        refine hK8 _ _ ?_
        try clear hK8 K8
        refine AWp.rk fun K10 hK10 => ?_
        try simp only [go_sem]
        (repeat (with_reducible refine And.intro ?_ ?_; omega))
        refine hK10 _ _ ?_
        try clear hK10 K10
        refine thenQ_n ?_
        refine ⟨_, 0, 0, ?_, k + 1, by omega, rfl, rfl, rfl⟩
        omega
    · skip
      refine AWp.exit ?_
      refine thenQ_e (thenQ_e (blkQ_e (thenQ_n ?_)))
      refine hK4 _ _ ?_
      try clear hK4 K4
      refine AWp.rs fun K11 hK11 => ?_
      try simp only [go_sem]
      refine hK11 _ _ ?_
      try clear hK11 K11
      refine AWp.ret ?_
      try simp only [go_sem]
      all_goals done
set_option maxRecDepth 4000 in
set_option maxHeartbeats 1000000 in
theorem sameCommand_step (T : Tbl) (c : Cmd) (ok : c.Ok) (i1 : PC Tryd.prog T 20 [.d (.slc 12 (thnD c)), .d (.slc 12 (thnD c))] (.d (.bool true))) (i2 : PC Tryd.prog T 20 [.d (.slc 12 (elsD c)), .d (.slc 12 (elsD c))] (.d (.bool true))) : PC Tryd.prog T 45 [.agg (cmdA c), .agg (cmdA c)] (.d (.bool true)) := by
  refine ⟨Tryd.call45, PCall.enter Tryd.func45 rfl Tryd.ntmps45 fun hb => ?_⟩
  obtain ⟨s1, s2, s3, s4, s5, s6⟩ := ok.inv
  try simp only [go_sem, Tryd.results45]
  refine AWp.rs fun K1 hK1 => ?_
  try simp only [go_sem]
  intro b1 fb1
  try simp only [freshL] at fb1
  intro b2 fb2
  try simp only [freshL] at fb2
  refine hK1 _ _ ?_
  try clear hK1 K1
  refine AWp.rs fun K4 hK4 => ?_
  try simp only [go_sem, fb2]
  refine DW.pcgr rfl rfl rfl rfl rfl (fun hg => sameTexts_r T _) (fun hg => by (try simp only [go_sem]) <;> first | exact hg | (simpa using hg) | grind) rfl rfl ?_
  try simp only [go_sem, fb2]
  refine DW.pcgr rfl rfl rfl rfl rfl (fun hg => sameTest_c T _ (by assumption)) (fun hg => by (try simp only [go_sem]) <;> first | exact hg | (simpa using hg) | grind) rfl rfl ?_
  try simp only [go_sem, fb2]
  refine DW.pcgr rfl rfl rfl rfl rfl (fun hg => i1) (fun hg => by (try simp only [go_sem]) <;> first | exact hg | (simpa using hg) | grind) rfl rfl ?_
  try simp only [go_sem, fb2]
  refine DW.pcgr rfl rfl rfl rfl rfl (fun hg => i2) (fun hg => by (try simp only [go_sem]) <;> first | exact hg | (simpa using hg) | grind) rfl rfl ?_
  try simp only [go_sem]
  refine hK4 _ _ ?_
  try clear hK4 K4
  refine AWp.ret ?_
  try simp only [go_sem]
  all_goals simp
theorem sameCommand_c (T : Tbl) (c : Cmd) (ok : c.Ok) : PC Tryd.prog T 45 [.agg (cmdA c), .agg (cmdA c)] (.d (.bool true)) := by
  induction c using Cmd.ind with
  | h c i1 i2 =>
    obtain ⟨s1, s2, s3, s4, s5, s6⟩ := ok.inv
    refine sameCommand_step T c ok ?_ ?_
    · rw [thnD_eq]; exact sameCommands_step T _ s3 fun x hx => i1 x hx (s5 x hx)
    · rw [elsD_eq]; exact sameCommands_step T _ s4 fun x hx => i2 x hx (s6 x hx)
theorem sameCommands_c (T : Tbl) (l : List Cmd) (hl : l.length * 208 ≤ 140737488355328) (ok : ∀ x ∈ l, x.Ok) : PC Tryd.prog T 20 [.d (.slc 12 (l.map cmdD)), .d (.slc 12 (l.map cmdD))] (.d (.bool true)) := sameCommands_step T l hl fun x hx => sameCommand_c T x (ok x hx)
end Go.Proofs.YthpkjmbdjnelfaaDoor

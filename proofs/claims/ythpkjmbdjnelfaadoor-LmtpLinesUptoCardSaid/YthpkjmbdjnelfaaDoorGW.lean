/- Texts that the laws rest on, packed. -/
import Derived.Test.YthpkjmbdjnelfaaDoorGB
import Derived.Test.YthpkjmbdjnelfaaDoorGE
import Derived.Test.YthpkjmbdjnelfaaDoorGT
import Derived.Test.YthpkjmbdjnelfaaDoorGD
namespace Go.Proofs.YthpkjmbdjnelfaaDoor
open Go.RowKit
set_option linter.unusedSimpArgs false
set_option linter.unusedVariables false
section
variable {P : Program} {T : Tbl} {G : Gh} {f : FuncId}
/-- a call that writes nothing that was there, and whose result holds no memory -/
theorem PC.old {args : List AV} {r : AV} (hcall : ∀ az w, (callFunc f az).run P w = .ok (.enter f az) w)
    (H : ∀ (F : Frz) (w : World) (vs : Array Value), (∀ b o u, F b o = some u → w.cell? ⟨b, o, none⟩ = some u) → (∀ g j x, (T g)[j]? = some x → ∃ u, F g j = some u ∧ VD F x u) → SlR (gh0 w F) args vs → Calls P f vs w fun e w' => ∃ v, e = .returned v ∧ Below w.heap.size w w' ∧ VR (gh0 w F) r v) : PC P T f args r := by
  refine ⟨hcall, fun F w vs hF hT R => (H F w vs hF hT R).mono ?_⟩
  rintro e w' ⟨v, rfl, hb, hv⟩
  refine ⟨v, F, rfl, hb, fun _ _ _ e => e, fun _ _ _ e => .inl e, fun b o u e => ?_, hv⟩
  have h1 := hF b o u e
  have hlt : b < w.heap.size := World.block_lt_of_cell? (w := w) (a := ⟨b, o, none⟩) h1
  rw [← h1]
  exact World.cell?_of_block (w := w) (a := ⟨b, o, none⟩) (hb.block b hlt)
theorem slr1 {a : AV} {vs : Array Value} (R : SlR G [a] vs) : ∃ v, vs = #[v] ∧ VR G a v := by
  obtain ⟨h1, h2⟩ := R
  obtain ⟨v, h3, h4⟩ := h2 0 a rfl
  refine ⟨v, ?_, h4⟩
  apply Array.ext_getElem?
  intro i
  cases i with
  | zero => simpa using h3
  | succ i => rw [Array.getElem?_eq_none (by rw [h1]; simp), Array.getElem?_eq_none (by simp)]
theorem slr2 {a b : AV} {vs : Array Value} (R : SlR G [a, b] vs) : ∃ v u, vs = #[v, u] ∧ VR G a v ∧ VR G b u := by
  obtain ⟨h1, h2⟩ := R
  obtain ⟨v, h3, h4⟩ := h2 0 a rfl
  obtain ⟨u, h5, h6⟩ := h2 1 b rfl
  refine ⟨v, u, ?_, h4, h6⟩
  apply Array.ext_getElem?
  intro i
  match i with
  | 0 => simpa using h3
  | 1 => simpa using h5
  | i + 2 => rw [Array.getElem?_eq_none (by rw [h1]; simp), Array.getElem?_eq_none (by simp)]
theorem VR.agg_inv {l : List AV} {v : Value} (h : VR G (.agg l) v) : ∃ vs : Array Value, v = .agg vs ∧ SlR G l vs := by
  cases h with
  | agg _ vs hl h =>
    refine ⟨vs.toArray, rfl, by simpa using hl, fun i a e => ?_⟩
    have hi : i < vs.length := by rw [hl]; exact (List.getElem?_eq_some_iff.1 e).1
    exact ⟨vs[i], by simp [hi], h i a _ e (List.getElem?_eq_getElem hi)⟩
/-- the values of tables' first cells -/
theorem tbl_cell {F : Frz} {w : World} {g j : Nat} {x : D} (hF : ∀ b o u, F b o = some u → w.cell? ⟨b, o, none⟩ = some u) (hT : ∀ g j x, (T g)[j]? = some x → ∃ u, F g j = some u ∧ VD F x u) (h : (T g)[j]? = some x) : ∃ u, w.cell? ⟨g, j, none⟩ = some u ∧ VD F x u := by
  obtain ⟨u, h1, h2⟩ := hT g j x h
  exact ⟨u, hF _ _ _ h1, h2⟩
end
end Go.Proofs.YthpkjmbdjnelfaaDoor

namespace Go.Proofs.YthpkjmbdjnelfaaDoor
open Go.RowKit
set_option linter.unusedSimpArgs false
set_option linter.unusedVariables false
set_option linter.unusedVariables false
/-- the library's word on long texts -/
def LibT (T : Tbl) : Prop := ∃ m : Int, (T 4)[0]? = some (.int .i64 m)
theorem LibT.lib0 {T : Tbl} (h : LibT T) {F : Frz} {w : World} (hF : ∀ b o u, F b o = some u → w.cell? ⟨b, o, none⟩ = some u) (hT : ∀ g j x, (T g)[j]? = some x → ∃ u, F g j = some u ∧ VD F x u) : Lib0 w := by
  obtain ⟨m, hm⟩ := h
  obtain ⟨u, h1, h2⟩ := tbl_cell hF hT hm
  obtain rfl := h2.int_inv
  exact ⟨World.block_lt_of_cell? w ⟨4, 0, none⟩ h1, m, h1⟩
theorem atom_p (T : Tbl) (c : UInt8) : PC Tryd.prog T 159 [.d (.int .u8 c.toNat)] (.d (.bool (atomB c))) := PC.old Tryd.call159 fun F w vs hF hT R => by
  obtain ⟨v, rfl, hv⟩ := slr1 R
  obtain rfl := hv.int_inv
  refine (atom_any c w).mono ?_
  rintro e w' ⟨rfl, rfl⟩
  exact ⟨_, rfl, Below.refl _ _, .bool _⟩
theorem adr_vs {G : Gh} {l d : Tx} {vs : Array Value} (R : SlR G [.agg [.d (.str l), .d (.str d)]] vs) : ∃ a : Adr, vs = #[a.val] ∧ a.l.data.toList = l ∧ a.d.data.toList = d := by
  obtain ⟨v, rfl, hv⟩ := slr1 R
  obtain ⟨us, rfl, hu⟩ := hv.agg_inv
  obtain ⟨x, y, rfl, hx, hy⟩ := slr2 hu
  obtain ⟨p, rfl, h1, _⟩ := hx.str_inv
  obtain ⟨q, rfl, h2, _⟩ := hy.str_inv
  exact ⟨⟨p, q⟩, rfl, h1, h2⟩
theorem adrE_of {a : Adr} {l d : Tx} (h1 : a.l.data.toList = l) (h2 : a.d.data.toList = d) : addrE a = adrE l d := by
  subst h1 h2
  simp only [addrE, adrE, dottedB, bs, size_data]
  congr
theorem whoCheck_p (T : Tbl) (hL : LibT T) (l d : Tx) (h1 : l.length ≤ 1048576) (h2 : d.length ≤ 1048576) : PC Tryd.prog T 56 [.agg [.d (.str l), .d (.str d)]] (.d (.int .i64 (adrE l d))) := PC.old Tryd.call56 fun F w vs hF hT R => by
  obtain ⟨a, rfl, e1, e2⟩ := adr_vs R
  refine (whoCheck_any a w ⟨by rw [← size_data, e1]; exact h1, by rw [← size_data, e2]; exact h2⟩ (hL.lib0 hF hT)).mono ?_
  rintro e w' ⟨rfl, hb⟩
  exact ⟨_, rfl, hb, by rw [adrE_of e1 e2]; exact .int _ _⟩
theorem addrFault_p (T : Tbl) (l d : Tx) (h1 : l.length ≤ 1048576) (h2 : d.length ≤ 1048576) : PC Tryd.prog T 64 [.agg [.d (.str l), .d (.str d)]] (.d (.int .i64 (adrE l d))) := PC.old Tryd.call64 fun F w vs hF hT R => by
  obtain ⟨a, rfl, e1, e2⟩ := adr_vs R
  refine (addrFault_any a w ⟨by rw [← size_data, e1]; exact h1, by rw [← size_data, e2]; exact h2⟩).mono ?_
  rintro e w' ⟨rfl, hb⟩
  exact ⟨_, rfl, hb, by rw [adrE_of e1 e2]; exact .int _ _⟩
end Go.Proofs.YthpkjmbdjnelfaaDoor

namespace Go.Proofs.YthpkjmbdjnelfaaDoor
open Go.RowKit
set_option linter.unusedSimpArgs false
set_option linter.unusedVariables false
open Go.ChangeShapes Go.WideShapes Go.ChangeAt
open Go.ChangeMaps (open_string)
set_option maxRecDepth 20000
/-- the library's variable alone -/
def libT (m : Int) : Tbl := fun g => if g = 4 then [.int .i64 m] else []
theorem libT_lib (m : Int) : LibT (libT m) := ⟨m, by simp [libT]⟩
theorem libT_ok {W : World} {m : Int} (h : W.cell? ⟨4, 0, none⟩ = some (.int .i64 m)) : ∀ g j x, (libT m g)[j]? = some x → ∃ u, frzW W g j = some u ∧ VD (frzW W) x u := fun g j x hx => by
  unfold libT at hx
  split at hx
  · rename_i hg
    subst hg
    cases j with
    | zero => simp at hx; subst hx; exact ⟨_, h, .int _ _⟩
    | succ j => simp at hx
  · simp at hx
end Go.Proofs.YthpkjmbdjnelfaaDoor

namespace Go.Proofs.YthpkjmbdjnelfaaDoor
set_option linter.unusedSimpArgs false
set_option linter.unusedVariables false
theorem byte_is (c d : UInt8) : ((c.toNat : Int) = (d.toNat : Int)) ↔ c = d := ⟨fun h => UInt8.toNat_inj.1 (by omega), fun h => by rw [h]⟩
theorem drop_cons {s : Tx} {j : Nat} (h : j < s.length) : s.drop j = s.getD j 0 :: s.drop (j + 1) := by
  rw [List.drop_eq_getElem_cons h]
  simp [List.getD, List.getElem?_eq_getElem h]
theorem drop_none {s : Tx} {j : Nat} (h : s.length ≤ j) : s.drop j = [] := List.drop_eq_nil_of_le h
theorem blk_of {c : UInt8} (h : (c.toNat : Int) = 32 ∨ (c.toNat : Int) = 9) : blkB c = true := by
  rcases h with h | h
  · rw [(byte_is c 32).1 h]; rfl
  · rw [(byte_is c 9).1 h]; rfl
theorem blk_no {c : UInt8} (h : ¬ ((c.toNat : Int) = 32 ∨ (c.toNat : Int) = 9)) : blkB c = false := by
  cases e : blkB c with
  | false => rfl
  | true =>
    exfalso
    simp only [blkB, Bool.or_eq_true, beq_iff_eq] at e
    rcases e with rfl | rfl
    · exact h (.inl rfl)
    · exact h (.inr rfl)
theorem runB_eq (c : UInt8) : runB c = (atomB c || decide ((c.toNat : Int) = 46)) := by
  unfold runB
  congr 1
  rw [Bool.eq_iff_iff, beq_iff_eq, decide_eq_true_eq]
  exact (byte_is c 46).symm
theorem sk_step {s : Tx} {j : Nat} (h : j < s.length) (hb : blkB (s.getD j 0) = true) : skipS (s.drop j) = skipS (s.drop (j + 1)) := by rw [drop_cons h, skip_cons hb]
theorem sk_end {s : Tx} {j : Nat} (h : j < s.length → blkB (s.getD j 0) = false) : skipS (s.drop j) = s.drop j := by
  rcases Nat.lt_or_ge j s.length with hj | hj
  · rw [drop_cons hj, skip_stay (h hj)]
  · rw [drop_none hj]; rfl
theorem run_step {s : Tx} {j : Nat} (h : j < s.length) (hb : runB (s.getD j 0) = true) : runS (s.drop j) = s.getD j 0 :: runS (s.drop (j + 1)) ∧ offS (s.drop j) = offS (s.drop (j + 1)) := by
  rw [drop_cons h, runS_cons hb]
  refine ⟨rfl, ?_⟩
  unfold offS; rw [List.dropWhile_cons, if_pos hb]
theorem run_end {s : Tx} {j : Nat} (h : j < s.length → runB (s.getD j 0) = false) : runS (s.drop j) = [] ∧ offS (s.drop j) = s.drop j := by
  rcases Nat.lt_or_ge j s.length with hj | hj
  · rw [drop_cons hj, runS_no (h hj), offS_no (h hj)]; exact ⟨rfl, rfl⟩
  · rw [drop_none hj]; exact ⟨rfl, rfl⟩
theorem take_step {s : Tx} {i j : Nat} (h : j < s.length) (hi : i ≤ j) (Z : Tx) : (s.take j).drop i ++ s.getD j 0 :: Z = (s.take (j + 1)).drop i ++ Z := by
  have : s.take (j + 1) = s.take j ++ [s.getD j 0] := by
    rw [List.take_add_one]; simp [List.getD, List.getElem?_eq_getElem h]
  rw [this, List.drop_append_of_le_length (by simp; omega)]
  simp
theorem head_is {s : Tx} {j n : Nat} (c : UInt8) (hc : c.toNat = n) (hn : 0 < n) (h : (((s.drop j).headD 0).toNat : Int) = (n : Int)) : j < s.length ∧ s.drop j = c :: s.drop (j + 1) := by
  rcases Nat.lt_or_ge j s.length with hj | hj
  · refine ⟨hj, ?_⟩
    rw [drop_cons hj] at h ⊢
    simp only [List.headD_cons] at h
    have : s.getD j 0 = c := UInt8.toNat_inj.1 (by omega)
    rw [this]
  · rw [drop_none hj] at h; simp at h; omega
theorem head_no {s : Tx} {j n : Nat} {c : UInt8} (hc : c.toNat = n) (h : ¬ (((s.drop j).headD 0).toNat : Int) = (n : Int)) : (s.drop j).head? ≠ some c := by
  intro e
  cases e2 : s.drop j with
  | nil => rw [e2] at e; simp at e
  | cons x r => rw [e2] at e h; simp at e; subst e; simp at h; omega
theorem quo_end {r : Tx} : quoS (34 :: r) = some r := by cases r <;> simp [quoS]
theorem quo_esc {c : UInt8} {r : Tx} : quoS (92 :: c :: r) = quoS r := by simp [quoS]
theorem quo_esc1 : quoS [92] = none := by simp [quoS]
theorem quo_step {c : UInt8} {r : Tx} (h1 : c ≠ 34) (h2 : c ≠ 92) : quoS (c :: r) = quoS r := by cases r <;> simp [quoS, h1, h2]
/-- the reader of a list -/
def wob (b : Nat) (s : Tx) (i : Nat) : Nat × Ob := (b, ⟨2, 1, [[.d (.str s), .d (.int .i64 i)]]⟩)
attribute [go_sem] wob
def errV : AV := .ifc 30 (.d (.int .i64 3))
set_option maxRecDepth 4000 in
set_option maxHeartbeats 1000000 in
theorem skip_c (T : Tbl) (b : Nat) (s : Tx) (i : Nat) (F : List (Nat × Ob)) (L : List Nat) (hi : i ≤ s.length) (hs : s.length ≤ 4096) : AC Tryd.prog T 182 [.ptr b 2 0 0] (⟨wob b s i :: F, L⟩) (fun x h => ∃ j, i ≤ j ∧ j ≤ s.length ∧ s.drop j = skipS (s.drop i) ∧ x = .ret (.tup []) ∧ h = ⟨wob b s j :: F, L⟩) := by
  refine ⟨Tryd.call182, ACalls.enterS Tryd.func182 rfl Tryd.ntmps182 rfl fun hb => ?_⟩
  simp only [go_sem, Tryd.results182]
  refine AWp.block ?_
  refine AWp.loopS [true] [] (fun n lc hc => ∃ (j : Nat), n = s.length - j ∧ EqS lc [] ∧ EqS hc (⟨wob b s j :: F, L⟩) ∧ (i ≤ j) ∧ (j ≤ s.length) ∧ (skipS (s.drop j) = skipS (s.drop i))) rfl ?_ ?_
  · refine ⟨_, i, rfl, ?_, ?_, ?_, ?_, ?_⟩
    · (try simp only [go_sem]) <;> first | exact ⟨rfl⟩ | (constructor; simp; done)
    · (try simp only [go_sem, wob]) <;> first | exact ⟨rfl⟩ | (constructor; simp; done)
    all_goals (first | omega | rfl | (simp; done) | (simp; omega) | assumption)
  · rintro _ _ _ ⟨j, rfl, ⟨rfl⟩, ⟨rfl⟩, h1, h2, h3⟩
    simp only [go_sem]
    refine AWp.seq fun K1 hK1 => ?_
    refine AWp.ds true [0, 1, 2, 3, 4, 5, 6, 7, 8, 9, 10, 11, 12, 13, 14, 15, 16, 17, 18, 19, 20, 21, 22, 23, 24, 25, 26, 27, 28, 29, 30, 31, 32, 33] rfl (by kernel_rfl) fun K2 hK2 => ?_
    try simp only [go_sem]
    (repeat (with_reducible refine And.intro ?_ ?_; (first | (simp; omega) | (intro hg; simp at hg ⊢; first | omega | exact hg | grind))))
    refine hK2 _ _ ?_
    try clear hK2 K2
    refine AWp.mask [true, false, false, false, false, false, false, false, false, false, false, false, false, false, false, false, false, false, false, false, false, false, false, false, false, false, false, false, false, false, false, false, false, false, true] rfl ?_
    simp only [go_sem]
    refine AWp.cond _ rfl (fun hc0 => ?_) (fun hc0 => ?_)
    · skip
      try simp only [decide_eq_true_eq, Bool.and_eq_true, Bool.or_eq_true] at hc0
      refine AWp.skip ?_
      refine thenQ_n ?_
      refine hK1 _ _ ?_
      try clear hK1 K1
      refine AWp.block ?_
      refine AWp.rk fun K3 hK3 => ?_
      try simp only [go_sem]
      (repeat (with_reducible refine And.intro ?_ ?_; omega))
      refine hK3 _ _ ?_
      try clear hK3 K3
      refine blkQ_n (thenQ_n ?_)
      refine EndS.mk [true] [] [] [] [b] [] rfl ?_ ?_
      · (try simp only [go_sem]) <;> try rfl
      refine .e ⟨_, ?_, j + 1, rfl, ?_, ?_, ?_, ?_, ?_⟩
      · first | omega | (simp; omega) | (grind)
      · (try simp only [go_sem]) <;> first | exact ⟨rfl⟩ | (constructor; simp; done)
      · (try simp only [go_sem]) <;> first | exact ⟨rfl⟩ | (constructor; simp [wob]; done)
      · omega
      · omega
      · rw [← sk_step (by omega) (blk_of (by simpa using hc0.2))]; exact h3
    · skip
      try simp only [decide_eq_false_iff_not, Bool.and_eq_false_iff, Bool.or_eq_false_iff, Int.not_lt] at hc0
      refine AWp.exit ?_
      refine thenQ_e (thenQ_e (blkQ_e ?_))
      apply endW_n [] [] [b] [] (by (try simp only [go_sem]); rfl)
      · refine ⟨j, h1, h2, ?_, rfl, ?_⟩
        · rw [← h3, sk_end (fun hj => blk_no (fun hb => ?_))]
          rcases hc0 with hc0 | hc0
          · omega
          · omega
        · simp only [go_sem]
      · simp only [LeA, LeL]
set_option maxRecDepth 4000 in
set_option maxHeartbeats 1000000 in
theorem next_c (T : Tbl) (b : Nat) (s : Tx) (i : Nat) (F : List (Nat × Ob)) (L : List Nat) (hi : i ≤ s.length) (hs : s.length ≤ 4096) : AC Tryd.prog T 184 [.ptr b 2 0 0] (⟨wob b s i :: F, L⟩) (fun x h => x = .ret (.d (.int .u8 ((s.drop i).headD 0).toNat)) ∧ h = ⟨wob b s i :: F, L⟩) := by
  refine ⟨Tryd.call184, ACalls.enterS Tryd.func184 rfl Tryd.ntmps184 rfl fun hb => ?_⟩
  simp only [go_sem, Tryd.results184]
  refine AWp.rs fun K1 hK1 => ?_
  try simp only [go_sem]
  refine hK1 _ _ ?_
  try clear hK1 K1
  refine AWp.seq fun K2 hK2 => ?_
  refine AWp.ds true [0, 1, 2, 3, 4, 5, 6, 7, 8, 9] rfl (by kernel_rfl) fun K3 hK3 => ?_
  try simp only [go_sem]
  refine hK3 _ _ ?_
  try clear hK3 K3
  refine AWp.mask [true, false, false, false, false, false, false, false, false, false, false, true] rfl ?_
  simp only [go_sem]
  refine AWp.cond _ rfl (fun hc0 => ?_) (fun hc0 => ?_)
  · skip
    try simp only [decide_eq_true_eq] at hc0
    refine AWp.rs fun K4 hK4 => ?_
    try simp only [go_sem]
    refine hK4 _ _ ?_
    try clear hK4 K4
    refine AWp.ret ?_
    try simp only [thenQ]
    apply endW_r [] [] [b] [] (by (try simp only [go_sem]); rfl)
    · refine ⟨rfl, ?_⟩
      simp only [go_sem]
    · rw [drop_none (by omega)]; simp [LeA, LeD]
  · skip
    try simp only [decide_eq_false_iff_not] at hc0
    refine AWp.skip ?_
    refine thenQ_n ?_
    refine hK2 _ _ ?_
    try clear hK2 K2
    refine AWp.ds true [0, 1, 2, 3, 4, 5, 6, 7, 8, 9] rfl (by kernel_rfl) fun K5 hK5 => ?_
    try simp only [go_sem]
    (repeat (with_reducible refine And.intro ?_ ?_; omega))
    refine hK5 _ _ ?_
    try clear hK5 K5
    refine AWp.mask [false, true] rfl ?_
    simp only [go_sem]
    refine AWp.ret ?_
    apply endW_r [] [] [b] [] (by (try simp only [go_sem]); rfl)
    · refine ⟨rfl, ?_⟩
      simp only [go_sem]
    · rw [drop_cons (by omega)]; simp [LeA, LeD]
set_option maxRecDepth 4000 in
set_option maxHeartbeats 1000000 in
theorem run_c (T : Tbl) (b : Nat) (s : Tx) (i : Nat) (F : List (Nat × Ob)) (L : List Nat) (hi : i ≤ s.length) (hs : s.length ≤ 4096) : AC Tryd.prog T 213 [.ptr b 2 0 0] (⟨wob b s i :: F, L⟩) (fun x h => ∃ j, i ≤ j ∧ j ≤ s.length ∧ s.drop j = offS (s.drop i) ∧ x = .ret (.d (.str (runS (s.drop i)))) ∧ h = ⟨wob b s j :: F, L⟩) := by
  refine ⟨Tryd.call213, ACalls.enterS Tryd.func213 rfl Tryd.ntmps213 rfl fun hb => ?_⟩
  simp only [go_sem, Tryd.results213]
  refine AWp.rs fun K1 hK1 => ?_
  try simp only [go_sem]
  refine hK1 _ _ ?_
  try clear hK1 K1
  refine AWp.rs fun K2 hK2 => ?_
  try simp only [go_sem]
  refine hK2 _ _ ?_
  try clear hK2 K2
  refine AWp.mask [true, false, true] rfl ?_
  simp only [go_sem]
  refine AWp.seq fun K3 hK3 => ?_
  refine AWp.block ?_
  refine AWp.loopS [true, true] [] (fun n lc hc => ∃ (j : Nat), n = s.length - j ∧ EqS lc [] ∧ EqS hc (⟨wob b s j :: F, L⟩) ∧ (i ≤ j) ∧ (j ≤ s.length) ∧ (offS (s.drop j) = offS (s.drop i)) ∧ ((s.take j).drop i ++ runS (s.drop j) = runS (s.drop i))) rfl ?_ ?_
  · refine ⟨_, i, rfl, ?_, ?_, ?_, ?_, ?_, ?_⟩
    · (try simp only [go_sem]) <;> first | exact ⟨rfl⟩ | (constructor; simp; done)
    · (try simp only [go_sem, wob]) <;> first | exact ⟨rfl⟩ | (constructor; simp; done)
    all_goals (first | omega | rfl | (simp; done))
  · rintro _ _ _ ⟨j, rfl, ⟨rfl⟩, ⟨rfl⟩, h1, h2, h3, h4⟩
    simp only [go_sem]
    refine AWp.seq fun K4 hK4 => ?_
    refine AWp.ds true [0, 1, 2, 3, 4, 5, 6, 7, 8, 9, 10, 11, 12, 13, 14, 15, 16, 17, 18, 19, 20, 21, 22, 23, 24, 25, 26, 27, 28, 29, 30, 31, 32, 33] rfl (by kernel_rfl) fun K5 hK5 => ?_
    try simp only [go_sem]
    (repeat (with_reducible refine And.intro ?_ ?_; (intro hg; simp at hg ⊢; first | omega | exact hg | grind)))
    refine DW.pcgr rfl rfl rfl rfl rfl (fun hg => atom_p T _) (fun hg => by (try simp only [go_sem]) <;> first | exact hg | (exfalso; simp at hg; done) | (simpa using hg) | grind) rfl rfl ?_
    try simp only [go_sem]
    (repeat (with_reducible refine And.intro ?_ ?_; (intro hg; simp at hg ⊢; first | omega | exact hg | grind)))
    refine hK5 _ _ ?_
    try clear hK5 K5
    refine AWp.mask [true, true, false, false, false, false, false, false, false, false, false, false, false, false, false, false, false, false, false, false, false, false, false, false, false, false, false, false, false, false, false, false, false, false, false, true] rfl ?_
    simp only [go_sem]
    refine AWp.cond _ rfl (fun hc0 => ?_) (fun hc0 => ?_)
    · skip
      try simp only [decide_eq_true_eq, Bool.and_eq_true, Bool.or_eq_true] at hc0
      have hrb : ∀ h, runB (s.getD j 0) = true := fun (h : (atomB (s.getD j 0) = true ∨ ((s.getD j 0).toNat : Int) = 46)) => by rw [runB_eq]; simpa using h
      refine AWp.skip ?_
      refine thenQ_n ?_
      refine hK4 _ _ ?_
      try clear hK4 K4
      refine AWp.block ?_
      refine AWp.rk fun K6 hK6 => ?_
      try simp only [go_sem]
      (repeat (with_reducible refine And.intro ?_ ?_; omega))
      refine hK6 _ _ ?_
      try clear hK6 K6
      refine blkQ_n (thenQ_n ?_)
      refine EndS.mk [true, true] [] [] [] [b] [] rfl ?_ ?_
      · (try simp only [go_sem]) <;> try rfl
      refine .e ⟨_, ?_, j + 1, rfl, ?_, ?_, ?_, ?_, ?_, ?_⟩
      · first | omega | (simp; omega) | (grind)
      · (try simp only [go_sem]) <;> first | exact ⟨rfl⟩ | (constructor; simp; done)
      · (try simp only [go_sem]) <;> first | exact ⟨rfl⟩ | (constructor; simp [wob]; done)
      · omega
      · omega
      · rw [← (run_step (by omega) (hrb hc0.2)).2]; exact h3
      · rw [(run_step (by omega) (hrb hc0.2)).1, take_step (by omega) h1] at h4; exact h4
    · skip
      try simp only [decide_eq_false_iff_not, Bool.and_eq_false_iff, Bool.or_eq_false_iff, Int.not_lt] at hc0
      have he := run_end (s := s) (j := j) (fun hj => by
        rw [runB_eq]
        rcases hc0 with hc0 | hc0
        · omega
        · simpa using hc0)
      refine AWp.exit ?_
      refine thenQ_e (thenQ_e (blkQ_e (thenQ_n ?_)))
      refine hK3 _ _ ?_
      try clear hK3 K3
      refine AWp.ds true [0, 1, 2, 3, 4, 5, 6, 7, 8, 9, 10] rfl (by kernel_rfl) fun K7 hK7 => ?_
      try simp only [go_sem]
      (repeat (with_reducible refine And.intro ?_ ?_; omega))
      refine hK7 _ _ ?_
      try clear hK7 K7
      refine AWp.mask [false, true] rfl ?_
      simp only [go_sem]
      refine AWp.ret ?_
      apply endW_r [] [] [b] [] (by (try simp only [go_sem]); rfl)
      · refine ⟨j, h1, h2, ?_, rfl, ?_⟩
        · rw [← h3, he.2]
        · simp only [go_sem]
      · rw [he.1, List.append_nil] at h4; rw [← h4]; simp [LeA, LeD]
set_option maxRecDepth 4000 in
set_option maxHeartbeats 1000000 in
theorem must_c (T : Tbl) (ok : Bool) (h : AH) : AC Tryd.prog T 183 [.d (.bool ok)] (h) (fun x h' => (ok = false ∧ x = .pan errV ∧ h' = h) ∨ (ok = true ∧ x = .ret (.tup []) ∧ h' = h)) := by
  refine ⟨Tryd.call183, ACalls.enterS Tryd.func183 rfl Tryd.ntmps183 rfl fun hb => ?_⟩
  simp only [go_sem, Tryd.results183]
  refine AWp.rs fun K1 hK1 => ?_
  try simp only [go_sem]
  refine hK1 _ _ ?_
  try clear hK1 K1
  refine AWp.cond _ rfl (fun hc0 => ?_) (fun hc0 => ?_)
  · skip
    try simp only [Bool.not_eq_true'] at hc0
    refine AWp.rk fun K2 hK2 => ?_
    try simp only [go_sem]
    refine DW.panic rfl rfl rfl ?_
    intro _
    refine endW_p [] [] [] [] ?_
    exact .inl ⟨by simpa using hc0, rfl, rfl⟩
  · skip
    try simp only [Bool.not_eq_false'] at hc0
    refine AWp.skip ?_
    apply endW_n [] [] [] [] (by (try simp only [go_sem]); rfl)
    · exact .inr ⟨by simpa using hc0, rfl, rfl⟩
    · simp only [LeA, LeL]
set_option maxRecDepth 4000 in
set_option maxHeartbeats 1000000 in
theorem quoted_c (T : Tbl) (b : Nat) (s : Tx) (i : Nat) (F : List (Nat × Ob)) (L : List Nat) (hi : i < s.length) (hs : s.length ≤ 4096) : AC Tryd.prog T 211 [.ptr b 2 0 0] (⟨wob b s i :: F, L⟩) (fun x h => (quoS (s.drop (i + 1)) = none ∧ x = .pan errV ∧ ∃ j, h = ⟨wob b s j :: F, L⟩) ∨ ∃ j, i < j ∧ j ≤ s.length ∧ quoS (s.drop (i + 1)) = some (s.drop j) ∧ x = .ret (.tup []) ∧ h = ⟨wob b s j :: F, L⟩) := by
  refine ⟨Tryd.call211, ACalls.enterS Tryd.func211 rfl Tryd.ntmps211 rfl fun hb => ?_⟩
  simp only [go_sem, Tryd.results211]
  refine AWp.seq fun K1 hK1 => ?_
  refine AWp.rs fun K2 hK2 => ?_
  try simp only [go_sem]
  (repeat (with_reducible refine And.intro ?_ ?_; omega))
  refine hK2 _ _ ?_
  try clear hK2 K2
  refine AWp.mask [true] rfl ?_
  simp only [go_sem]
  refine AWp.block ?_
  refine AWp.loopS [true] [] (fun n lc hc => ∃ (j : Nat), n = s.length - j ∧ EqS lc [] ∧ EqS hc (⟨wob b s j :: F, L⟩) ∧ (i < j) ∧ (j ≤ s.length) ∧ (quoS (s.drop j) = quoS (s.drop (i + 1)))) rfl ?_ ?_
  · refine ⟨_, i + 1, rfl, ?_, ?_, ?_, ?_, ?_⟩
    · (try simp only [go_sem]) <;> first | exact ⟨rfl⟩ | (constructor; simp; done)
    · (try simp only [go_sem, wob]) <;> first | exact ⟨rfl⟩ | (constructor; simp [wob]; done)
    all_goals (first | omega | rfl | (simp; done) | (simp; omega) | assumption)
  · rintro _ _ _ ⟨j, rfl, ⟨rfl⟩, ⟨rfl⟩, h1, h2, h3⟩
    simp only [go_sem]
    refine AWp.seq fun K3 hK3 => ?_
    refine AWp.rs fun K4 hK4 => ?_
    try simp only [go_sem]
    refine DW.acp [b] [] rfl rfl rfl rfl (by (try simp only [go_sem, wob]); rfl) rfl (next_c T b s j _ _ (by omega) hs) ?_
    rintro _ _ ⟨rfl, rfl⟩
    try simp only [go_sem, wob]
    refine hK4 _ _ ?_
    try clear hK4 K4
    refine AWp.cond _ rfl (fun hc0 => ?_) (fun hc0 => ?_)
    · skip
      try simp only [decide_eq_false_iff_not, Bool.not_eq_true'] at hc0
      have hn34 := head_no (c := 34) rfl hc0
      refine AWp.skip ?_
      refine thenQ_n ?_
      refine hK3 _ _ ?_
      try clear hK3 K3
      refine AWp.seq fun K5 hK5 => ?_
      refine AWp.block ?_
      refine AWp.seq fun K6 hK6 => ?_
      refine AWp.rs fun K7 hK7 => ?_
      try simp only [go_sem]
      refine DW.acp [b] [] rfl rfl rfl rfl (by (try simp only [go_sem, wob]); rfl) rfl (next_c T b s j _ _ (by omega) hs) ?_
      rintro _ _ ⟨rfl, rfl⟩
      try simp only [go_sem, wob]
      refine hK7 _ _ ?_
      try clear hK7 K7
      refine AWp.mask [true, false, false, false, false, false, true] rfl ?_
      simp only [go_sem]
      refine AWp.cond _ rfl (fun hc1 => ?_) (fun hc1 => ?_)
      · skip
        try simp only [decide_eq_true_eq] at hc1
        obtain ⟨hj, hd⟩ := head_is 92 rfl (by decide) hc1
        have hst : quoS (s.drop (j + 1 + 1)) = quoS (s.drop j) ∨ s.length ≤ j + 1 := by
          rcases Nat.lt_or_ge (j + 1) s.length with h | h
          · left; rw [hd, drop_cons h, quo_esc]
          · exact .inr h
        refine AWp.rk fun K8 hK8 => ?_
        try simp only [go_sem]
        (repeat (with_reducible refine And.intro ?_ ?_; omega))
        refine hK8 _ _ ?_
        try clear hK8 K8
        refine thenQ_n ?_
        refine hK6 _ _ ?_
        try clear hK6 K6
        refine AWp.mask [true] rfl ?_
        simp only [go_sem]
        refine AWp.dk false [0, 1, 2, 3, 4, 5, 6, 7, 8, 9, 10] rfl (by kernel_rfl) fun K9 hK9 => ?_
        try simp only [go_sem]
        refine DW.acp [] [] rfl rfl rfl rfl (by (try simp only [go_sem]); rfl) rfl (must_c T _ _) ?_
        rintro _ _ (⟨hm10, rfl, rfl⟩ | ⟨hm10, rfl, rfl⟩)
        · skip
          intro _
          refine endW_p [] [] [b] [] ?_
          simp only [decide_eq_false_iff_not, Int.not_lt] at hm10
          first | exact .inl ⟨by rw [← h3, hd, drop_none (by omega)]; exact quo_esc1, rfl, j + 1, by simp [go_sem]⟩ | exact .inl ⟨by rw [← h3, drop_none (by omega)]; rfl, rfl, j, by simp only [go_sem, wob]⟩
        simp only [decide_eq_true_eq] at hm10
        try simp only [go_sem]
        refine hK9 _ _ ?_
        try clear hK9 K9
        refine blkQ_n (thenQ_n ?_)
        refine hK5 _ _ ?_
        try clear hK5 K5
        refine AWp.mask [true] rfl ?_
        simp only [go_sem]
        refine AWp.rk fun K11 hK11 => ?_
        try simp only [go_sem]
        (repeat (with_reducible refine And.intro ?_ ?_; omega))
        refine hK11 _ _ ?_
        try clear hK11 K11
        refine thenQ_n ?_
        refine EndS.mk [true] [] [] [] [b] [] rfl ?_ ?_
        · (try simp only [go_sem]) <;> try rfl
        refine .e ⟨_, ?_, j + 1 + 1, rfl, ?_, ?_, ?_, ?_, ?_⟩
        · first | omega | (simp; omega) | (grind)
        · (try simp only [go_sem]) <;> first | exact ⟨rfl⟩ | (constructor; simp; done)
        · (try simp only [go_sem]) <;> first | exact ⟨rfl⟩ | (constructor; simp [wob]; done)
        · omega
        · omega
        · rcases hst with e | e <;> first | omega | (rw [e]; exact h3)
      · skip
        try simp only [decide_eq_false_iff_not] at hc1
        have hn92 := head_no (c := 92) rfl hc1
        have hst : s.length ≤ j ∨ quoS (s.drop (j + 1)) = quoS (s.drop j) := by
          rcases Nat.lt_or_ge j s.length with h | h
          · right
            rw [drop_cons h] at hn34 hn92 ⊢
            simp at hn34 hn92
            exact (quo_step hn34 hn92).symm
          · exact .inl h
        refine AWp.skip ?_
        refine thenQ_n ?_
        refine hK6 _ _ ?_
        try clear hK6 K6
        refine AWp.dk false [0, 1, 2, 3, 4, 5, 6, 7, 8, 9, 10] rfl (by kernel_rfl) fun K12 hK12 => ?_
        try simp only [go_sem]
        refine DW.acp [] [] rfl rfl rfl rfl (by (try simp only [go_sem]); rfl) rfl (must_c T _ _) ?_
        rintro _ _ (⟨hm13, rfl, rfl⟩ | ⟨hm13, rfl, rfl⟩)
        · skip
          intro _
          refine endW_p [] [] [b] [] ?_
          simp only [decide_eq_false_iff_not, Int.not_lt] at hm13
          first | exact .inl ⟨by rw [← h3, hd, drop_none (by omega)]; exact quo_esc1, rfl, j + 1, by simp [go_sem, wob]⟩ | exact .inl ⟨by rw [← h3, drop_none (by omega)]; rfl, rfl, j, by simp only [go_sem]⟩
        simp only [decide_eq_true_eq] at hm13
        try simp only [go_sem]
        refine hK12 _ _ ?_
        try clear hK12 K12
        refine blkQ_n (thenQ_n ?_)
        refine hK5 _ _ ?_
        try clear hK5 K5
        refine AWp.mask [true] rfl ?_
        simp only [go_sem]
        refine AWp.rk fun K14 hK14 => ?_
        try simp only [go_sem]
        (repeat (with_reducible refine And.intro ?_ ?_; omega))
        refine hK14 _ _ ?_
        try clear hK14 K14
        refine thenQ_n ?_
        refine EndS.mk [true] [] [] [] [b] [] rfl ?_ ?_
        · (try simp only [go_sem]) <;> try rfl
        refine .e ⟨_, ?_, j + 1, rfl, ?_, ?_, ?_, ?_, ?_⟩
        · first | omega | (simp; omega) | (grind)
        · (try simp only [go_sem]) <;> first | exact ⟨rfl⟩ | (constructor; simp; done)
        · (try simp only [go_sem]) <;> first | exact ⟨rfl⟩ | (constructor; simp [wob]; done)
        · omega
        · omega
        · rcases hst with e | e <;> first | omega | (rw [e]; exact h3)
    · skip
      try simp only [decide_eq_true_eq, Bool.not_eq_false'] at hc0
      obtain ⟨hj, hd⟩ := head_is 34 rfl (by decide) hc0
      refine AWp.exit ?_
      refine thenQ_e (thenQ_e (blkQ_e (thenQ_n ?_)))
      refine hK1 _ _ ?_
      try clear hK1 K1
      refine AWp.rk fun K15 hK15 => ?_
      try simp only [go_sem]
      (repeat (with_reducible refine And.intro ?_ ?_; omega))
      refine hK15 _ _ ?_
      try clear hK15 K15
      apply endW_n [] [] [b] [] (by (try simp only [go_sem]); rfl)
      · refine .inr ⟨j + 1, by omega, by omega, ?_, rfl, ?_⟩
        · rw [← h3, hd, quo_end]
        · simp only [go_sem]; simp
      · simp only [LeA, LeL]
end Go.Proofs.YthpkjmbdjnelfaaDoor

namespace Go.Proofs.YthpkjmbdjnelfaaDoor
set_option linter.unusedSimpArgs false
set_option linter.unusedVariables false
theorem bare_at {l : Tx} {s : Tx} {j : Nat} (hd : s.drop j = 64 :: s.drop (j + 1)) (h : adrE l (runS (s.drop (j + 1))) = 0) : bareS l (s.drop j) = some ((l, runS (s.drop (j + 1))), offS (s.drop (j + 1))) := by
  rw [hd, bareS, if_pos ⟨rfl, h⟩]
theorem bare_no {l : Tx} {s : Tx} {j : Nat} (h : (s.drop j).head? = some 64 → adrE l (runS (s.drop (j + 1))) ≠ 0) : bareS l (s.drop j) = none := by
  rcases Nat.lt_or_ge j s.length with hj | hj
  · rw [drop_cons hj] at h ⊢
    rw [bareS, if_neg]
    rintro ⟨h1, h2⟩
    exact h (by rw [h1]; rfl) h2
  · rw [drop_none hj]; rfl
theorem run_len (s : Tx) (j : Nat) : (runS (s.drop j)).length ≤ s.length := by
  have := (List.takeWhile_sublist (l := s.drop j) runB).length_le
  unfold runS
  simp at this ⊢
  omega
theorem gt_no {a : Ad} {s : Tx} {j : Nat} (h : (s.drop j).head? ≠ some 62) : gtS (some (a, s.drop j)) = none := by
  cases e : s.drop j with
  | nil => rfl
  | cons c r => rw [e] at h; simp at h; simp [gtS, h]
theorem gt_yes {a : Ad} {r : Tx} : gtS (some (a, 62 :: r)) = some (a, r) := by simp [gtS]
theorem addr_bare {s : Tx} {j j1 j2 : Nat} {first : Bool} (hsk : s.drop j1 = skipS (s.drop j)) (h1 : (s.drop j1).head? ≠ some 34) (h2 : (s.drop j1).head? ≠ some 60) (hr : s.drop j2 = offS (s.drop j1)) (hf : first = true) (h : (s.drop j2).head? = some 64) : addrS first (s.drop j) = bareS (runS (s.drop j1)) (s.drop j2) := by
  rw [addrS_x (by rw [← hsk]; exact h1) (by rw [← hsk]; exact h2), ← hsk, ← hr, if_pos ⟨hf, h⟩]
theorem addr_word {s : Tx} {j j1 j2 : Nat} {first : Bool} (hsk : s.drop j1 = skipS (s.drop j)) (h1 : (s.drop j1).head? ≠ some 34) (h2 : (s.drop j1).head? ≠ some 60) (hr : s.drop j2 = offS (s.drop j1)) (h : ¬ (first = true ∧ (s.drop j2).head? = some 64)) : addrS first (s.drop j) = if runS (s.drop j1) = [] then none else addrS false (s.drop j2) := by
  rw [addrS_x (by rw [← hsk]; exact h1) (by rw [← hsk]; exact h2), ← hsk, ← hr, if_neg h]
theorem run_lt {s : Tx} {j1 j2 : Nat} (hr : s.drop j2 = offS (s.drop j1)) (h : runS (s.drop j1) ≠ []) (hj : j2 ≤ s.length) : j1 < j2 := by
  have := off_lt _ h
  rw [← hr] at this
  simp at this
  omega
theorem icast (n : Nat) : (n : Int) + 1 = ((n + 1 : Nat) : Int) := rfl
set_option maxRecDepth 4000 in
set_option maxHeartbeats 1000000 in
theorem bare_c (T : Tbl) (hL : LibT T) (b : Nat) (s : Tx) (i : Nat) (F : List (Nat × Ob)) (L : List Nat) (hi : i ≤ s.length) (hs : s.length ≤ 4096) (l : Tx) (hl : l.length ≤ 4096) : AC Tryd.prog T 212 [.ptr b 2 0 0, .d (.str l)] (⟨wob b s i :: F, L⟩) (fun x h => (bareS l (s.drop i) = none ∧ x = .pan errV ∧ ∃ j, h = ⟨wob b s j :: F, L⟩) ∨ ∃ j a, i ≤ j ∧ j ≤ s.length ∧ bareS l (s.drop i) = some (a, s.drop j) ∧ x = .ret (.agg [.d (.str a.1), .d (.str a.2)]) ∧ h = ⟨wob b s j :: F, L⟩) := by
  refine ⟨Tryd.call212, ACalls.enterS Tryd.func212 rfl Tryd.ntmps212 rfl fun hb => ?_⟩
  simp only [go_sem, Tryd.results212]
  refine AWp.rs fun K1 hK1 => ?_
  try simp only [go_sem]
  intro b4
  first | intro fb4 | have fb4 := True.intro
  try simp only [freshL, wob] at fb4
  refine hK1 _ _ ?_
  try clear hK1 K1
  refine AWp.rs fun K2 hK2 => ?_
  try simp only [go_sem]
  refine DW.acp [b] [] rfl rfl rfl rfl (by (try simp only [go_sem, wob, fb4]); rfl) rfl (next_c T b s i _ _ (by omega) hs) ?_
  rintro _ _ ⟨rfl, rfl⟩
  try simp only [go_sem, wob]
  refine DW.acp [] [] rfl rfl rfl rfl (by (try simp only [go_sem]); rfl) rfl (must_c T _ _) ?_
  rintro _ _ (⟨hm3, rfl, rfl⟩ | ⟨hm3, rfl, rfl⟩)
  · skip
    intro _
    refine endW_p [b4] [] [b] [] ?_
    simp only [decide_eq_false_iff_not] at hm3
    exact .inl ⟨bare_no (fun h => absurd h (head_no (c := 64) rfl hm3)), rfl, i, by simp only [go_sem, fb4]⟩
  simp only [decide_eq_true_eq] at hm3
  obtain ⟨hj, hd⟩ := head_is 64 rfl (by decide) hm3
  try simp only [go_sem]
  refine hK2 _ _ ?_
  try clear hK2 K2
  refine AWp.mask [true, true, true] rfl ?_
  simp only [go_sem]
  refine AWp.rs fun K4 hK4 => ?_
  try simp only [go_sem, icast, fb4]
  (repeat (with_reducible refine And.intro ?_ ?_; omega))
  refine hK4 _ _ ?_
  try clear hK4 K4
  refine AWp.mask [true, true, true] rfl ?_
  simp only [go_sem]
  refine AWp.rs fun K5 hK5 => ?_
  try simp only [go_sem]
  refine DW.acp [b] [] rfl rfl rfl rfl (by (try simp only [go_sem, wob, fb4]); rfl) rfl (run_c T b s (i + 1) _ _ (by omega) hs) ?_
  rintro _ _ ⟨I6, hI6a, hI6b, hI6c, rfl, rfl⟩
  try simp only [go_sem, wob]
  intro b5
  first | intro fb5 | have fb5 := True.intro
  try simp only [freshL, wob] at fb5
  refine hK5 _ _ ?_
  try clear hK5 K5
  refine AWp.mask [false, false, true, true] rfl ?_
  simp only [go_sem]
  refine AWp.rs fun K7 hK7 => ?_
  try simp only [go_sem, fb5]
  refine DW.pcr rfl rfl rfl rfl (whoCheck_p T hL _ _ (by omega) (by have := run_len s (i + 1); omega)) rfl rfl ?_
  try simp only [go_sem]
  refine DW.acp [] [] rfl rfl rfl rfl (by (try simp only [go_sem]); rfl) rfl (must_c T _ _) ?_
  rintro _ _ (⟨hm8, rfl, rfl⟩ | ⟨hm8, rfl, rfl⟩)
  · skip
    intro _
    refine endW_p [b4, b5] [] [b] [] ?_
    simp only [decide_eq_false_iff_not] at hm8
    exact .inl ⟨bare_no (fun _ h => hm8 h), rfl, I6, by simp only [go_sem, fb4, fb5]⟩
  simp only [decide_eq_true_eq] at hm8
  have hA := hm8
  try simp only [go_sem]
  refine hK7 _ _ ?_
  try clear hK7 K7
  refine AWp.mask [true, true] rfl ?_
  simp only [go_sem]
  refine AWp.rs fun K9 hK9 => ?_
  try simp only [go_sem, fb4, fb5]
  refine hK9 _ _ ?_
  try clear hK9 K9
  refine AWp.ret ?_
  apply endW_r [b4, b5] [] [b] [] (by (try simp only [go_sem, fb4, fb5]); rfl)
  · refine .inr ⟨I6, (l, runS (s.drop (i + 1))), by omega, by omega, ?_, rfl, ?_⟩
    · rw [hI6c]; exact bare_at hd hA
    · simp only [go_sem, fb4, fb5]
  · simp only [LeA, LeL, LeD, and_self]
set_option maxRecDepth 4000 in
set_option maxHeartbeats 1000000 in
theorem address_c (T : Tbl) (hL : LibT T) (b : Nat) (s : Tx) (i : Nat) (F : List (Nat × Ob)) (L : List Nat) (hi : i ≤ s.length) (hs : s.length ≤ 4096) : AC Tryd.prog T 181 [.ptr b 2 0 0] (⟨wob b s i :: F, L⟩) (fun x h => (addrS true (s.drop i) = none ∧ x = .pan errV ∧ ∃ j, h = ⟨wob b s j :: F, L⟩) ∨ ∃ j a, i ≤ j ∧ j ≤ s.length ∧ addrS true (s.drop i) = some (a, s.drop j) ∧ x = .ret (.agg [.d (.str a.1), .d (.str a.2)]) ∧ h = ⟨wob b s j :: F, L⟩) := by
  refine ⟨Tryd.call181, ACalls.enterS Tryd.func181 rfl Tryd.ntmps181 rfl fun hb => ?_⟩
  simp only [go_sem, Tryd.results181]
  refine AWp.rs fun K1 hK1 => ?_
  try simp only [go_sem]
  intro b2
  first | intro fb2 | have fb2 := True.intro
  try simp only [freshL, wob] at fb2
  refine hK1 _ _ ?_
  try clear hK1 K1
  refine AWp.rs fun K2 hK2 => ?_
  try simp only [go_sem]
  refine hK2 _ _ ?_
  try clear hK2 K2
  refine AWp.block ?_
  refine AWp.loopS [true, true] [false, false, true] (fun n lc hc => ∃ (j w : Nat), n = s.length - j ∧ EqS lc [(3, .d (.int .i64 w))] ∧ EqS hc (⟨[(b2, ⟨2, 1, [[.d (.str []), .d (.str [])]]⟩), wob b s j] ++ F, L⟩) ∧ (i ≤ j) ∧ (j ≤ s.length) ∧ (w ≤ j) ∧ (addrS (decide (w = 0)) (s.drop j) = addrS true (s.drop i))) rfl ?_ ?_
  · refine ⟨_, i, 0, rfl, ?_, ?_, ?_, ?_, ?_, ?_⟩
    · (try simp only [go_sem]) <;> first | exact ⟨rfl⟩ | (constructor; simp; done)
    · (try simp only [go_sem, wob]) <;> first | exact ⟨rfl⟩ | (constructor; simp; done)
    all_goals (first | omega | rfl)
  · rintro _ _ _ ⟨j, w, rfl, ⟨rfl⟩, ⟨rfl⟩, h1, h2, h3, h4⟩
    simp only [go_sem]
    refine AWp.seq fun K3 hK3 => ?_
    refine AWp.block ?_
    refine AWp.rs fun K4 hK4 => ?_
    try simp only [go_sem]
    refine DW.acp [b] [] rfl rfl rfl rfl (by (try simp only [go_sem, wob, fb2]); rfl) rfl (skip_c T b s j _ _ (by omega) hs) ?_
    rintro _ _ ⟨I5, hI5a, hI5b, hI5c, rfl, rfl⟩
    try simp only [go_sem, wob]
    have hsk := hI5c
    refine hK4 _ _ ?_
    try clear hK4 K4
    refine AWp.rs fun K6 hK6 => ?_
    try simp only [go_sem]
    refine DW.acp [b] [] rfl rfl rfl rfl (by (try simp only [go_sem, wob, fb2]); rfl) rfl (next_c T b s I5 _ _ (by omega) hs) ?_
    rintro _ _ ⟨rfl, rfl⟩
    try simp only [go_sem, wob]
    refine hK6 _ _ ?_
    try clear hK6 K6
    refine AWp.block ?_
    refine AWp.rs fun K7 hK7 => ?_
    try simp only [go_sem]
    refine hK7 _ _ ?_
    try clear hK7 K7
    refine AWp.mask [true, true, true, false, false, false, true, true] rfl ?_
    simp only [go_sem]
    refine AWp.cond _ rfl (fun hc0 => ?_) (fun hc0 => ?_)
    · skip
      try simp only [decide_eq_true_eq] at hc0
      obtain ⟨hj, hd⟩ := head_is 34 rfl (by decide) hc0
      have hq := fun first => addrS_34 (first := first) (s := s.drop j) (r := s.drop (I5 + 1)) (by rw [← hsk, hd])
      refine AWp.rk fun K8 hK8 => ?_
      try simp only [go_sem]
      refine DW.acp [b] [] rfl rfl rfl rfl (by (try simp only [go_sem, wob, fb2]); rfl) rfl (quoted_c T b s I5 _ _ (by omega) hs) ?_
      rintro _ _ (⟨hI9q, rfl, yI9, rfl⟩ | ⟨I9, hI9a, hI9b, hI9q, rfl, rfl⟩)
      · skip
        intro _
        refine endW_p [b2] [] [b] [] ?_
        exact .inl ⟨by rw [← h4, hq, hI9q], rfl, yI9, by simp only [go_sem, wob, fb2]⟩
      have hst : addrS (decide (w = 0)) (s.drop j) = addrS false (s.drop I9) := by rw [hq, hI9q]
      try simp only [go_sem, wob]
      refine hK8 _ _ ?_
      try clear hK8 K8
      refine blkQ_n (blkQ_n (thenQ_n ?_))
      refine hK3 _ _ ?_
      try clear hK3 K3
      refine AWp.mask [true, true, true] rfl ?_
      simp only [go_sem]
      refine AWp.rk fun K10 hK10 => ?_
      try simp only [go_sem, icast]
      (repeat (with_reducible refine And.intro ?_ ?_; omega))
      refine hK10 _ _ ?_
      try clear hK10 K10
      refine thenQ_n ?_
      refine EndS.mk [true, true] [false, false, true] [] [] [b2, b] [] rfl ?_ ?_
      · (try simp only [go_sem]) <;> try rfl
      refine .e ⟨_, ?_, I9, w + 1, rfl, ?_, ?_, ?_, ?_, ?_, ?_⟩
      · first | omega | (simp; omega) | (grind)
      · (try simp only [go_sem]) <;> first | exact ⟨rfl⟩ | (constructor; simp; done)
      · (try simp only [go_sem, fb2]) <;> first | exact ⟨rfl⟩ | (constructor; simp; done)
      · omega
      · omega
      · omega
      · rw [show decide (w + 1 = 0) = false by simp, ← h4]; exact hst.symm
    · skip
      try simp only [decide_eq_false_iff_not] at hc0
      have hn34 := head_no (c := 34) rfl hc0
      refine AWp.rs fun K11 hK11 => ?_
      try simp only [go_sem]
      refine hK11 _ _ ?_
      try clear hK11 K11
      refine AWp.cond _ rfl (fun hc1 => ?_) (fun hc1 => ?_)
      · skip
        try simp only [decide_eq_true_eq] at hc1
        obtain ⟨hj, hd⟩ := head_is 60 rfl (by decide) hc1
        have hq := fun first => addrS_60 (first := first) (s := s.drop j) (r := s.drop (I5 + 1)) (by rw [← hsk, hd])
        refine AWp.rs fun K12 hK12 => ?_
        try simp only [go_sem, icast, fb2]
        (repeat (with_reducible refine And.intro ?_ ?_; omega))
        refine hK12 _ _ ?_
        try clear hK12 K12
        refine AWp.mask [true, true] rfl ?_
        simp only [go_sem]
        refine AWp.rs fun K13 hK13 => ?_
        try simp only [go_sem]
        refine DW.acp [b] [] rfl rfl rfl rfl (by (try simp only [go_sem, wob, fb2]); rfl) rfl (run_c T b s (I5 + 1) _ _ (by omega) hs) ?_
        rintro _ _ ⟨I14, hI14a, hI14b, hI14c, rfl, rfl⟩
        try simp only [go_sem, wob]
        refine DW.acp [b] [] rfl rfl rfl rfl (by (try simp only [go_sem, wob, fb2]); rfl) rfl (bare_c T hL b s I14 _ _ (by omega) hs _ (by have := run_len s (I5 + 1); omega)) ?_
        rintro _ _ (⟨hI15q, rfl, yI15, rfl⟩ | ⟨I15, aI15, hI15a, hI15b, hI15q, rfl, rfl⟩)
        · skip
          intro _
          refine endW_p [b2] [] [b] [] ?_
          exact .inl ⟨by rw [← h4, hq, ← hI14c, hI15q]; rfl, rfl, yI15, by simp only [go_sem, wob, fb2]⟩
        have hbq := hI15q
        rw [hI14c] at hbq
        try simp only [go_sem, wob]
        intro b4
        first | intro fb4 | have fb4 := True.intro
        try simp only [freshL, wob] at fb4
        refine hK13 _ _ ?_
        try clear hK13 K13
        refine AWp.mask [true, true, true] rfl ?_
        simp only [go_sem]
        refine AWp.rs fun K16 hK16 => ?_
        try simp only [go_sem]
        refine DW.acp [b] [] rfl rfl rfl rfl (by (try simp only [go_sem, wob, fb2, fb4]); rfl) rfl (next_c T b s I15 _ _ (by omega) hs) ?_
        rintro _ _ ⟨rfl, rfl⟩
        try simp only [go_sem, wob]
        refine DW.acp [] [] rfl rfl rfl rfl (by (try simp only [go_sem]); rfl) rfl (must_c T _ _) ?_
        rintro _ _ (⟨hm17, rfl, rfl⟩ | ⟨hm17, rfl, rfl⟩)
        · skip
          intro _
          refine endW_p [b2, b4] [] [b] [] ?_
          simp only [decide_eq_false_iff_not] at hm17
          exact .inl ⟨by rw [← h4, hq, hbq, gt_no (head_no (c := 62) rfl hm17)], rfl, I15, by simp only [go_sem, fb2, fb4]⟩
        simp only [decide_eq_true_eq] at hm17
        obtain ⟨hj2, hd2⟩ := head_is 62 rfl (by decide) hm17
        try simp only [go_sem]
        refine hK16 _ _ ?_
        try clear hK16 K16
        refine AWp.mask [true, true, true] rfl ?_
        simp only [go_sem]
        refine AWp.rs fun K18 hK18 => ?_
        try simp only [go_sem, icast, fb2, fb4]
        (repeat (with_reducible refine And.intro ?_ ?_; omega))
        refine hK18 _ _ ?_
        try clear hK18 K18
        refine AWp.mask [false, true, true] rfl ?_
        simp only [go_sem]
        refine AWp.rs fun K19 hK19 => ?_
        try simp only [go_sem, fb2, fb4]
        refine hK19 _ _ ?_
        try clear hK19 K19
        refine AWp.ret ?_
        try simp only [thenQ, blkQ]
        apply endW_r [b2, b4] [] [b] [] (by (try simp only [go_sem, fb2, fb4]); rfl)
        · refine .inr ⟨I15 + 1, aI15, by omega, by omega, ?_, rfl, ?_⟩
          · rw [← h4, hq, hbq, hd2, gt_yes]
          · simp only [go_sem, fb2, fb4]
        · simp only [LeA, LeL, LeD, and_self]
      · skip
        try simp only [decide_eq_false_iff_not] at hc1
        have hn60 := head_no (c := 60) rfl hc1
        refine AWp.rs fun K20 hK20 => ?_
        try simp only [go_sem]
        refine DW.acp [b] [] rfl rfl rfl rfl (by (try simp only [go_sem, wob, fb2]); rfl) rfl (run_c T b s I5 _ _ (by omega) hs) ?_
        rintro _ _ ⟨I21, hI21a, hI21b, hI21c, rfl, rfl⟩
        try simp only [go_sem, wob]
        have hrn := hI21c
        refine hK20 _ _ ?_
        try clear hK20 K20
        refine AWp.mask [true, true, true, true] rfl ?_
        simp only [go_sem]
        refine AWp.seq fun K22 hK22 => ?_
        refine AWp.rs fun K23 hK23 => ?_
        try simp only [go_sem]
        refine DW.acp [b] [] rfl rfl rfl rfl (by (try simp only [go_sem, wob, fb2]); rfl) rfl (next_c T b s I21 _ _ (by omega) hs) ?_
        rintro _ _ ⟨rfl, rfl⟩
        try simp only [go_sem, wob]
        refine hK23 _ _ ?_
        try clear hK23 K23
        refine AWp.mask [true, true, true, true, false, false, false, false, false, false, true] rfl ?_
        simp only [go_sem]
        refine AWp.cond _ rfl (fun hc2 => ?_) (fun hc2 => ?_)
        · skip
          try simp only [decide_eq_true_eq, Bool.and_eq_true] at hc2
          obtain ⟨hj2, hd2⟩ := head_is 64 rfl (by decide) hc2.1
          have hst := addr_bare (first := decide (w = 0)) hsk hn34 hn60 hrn (by simpa using hc2.2) (by rw [hd2]; rfl)
          refine AWp.rs fun K24 hK24 => ?_
          try simp only [go_sem]
          refine DW.acp [b] [] rfl rfl rfl rfl (by (try simp only [go_sem, wob, fb2]); rfl) rfl (bare_c T hL b s I21 _ _ (by omega) hs _ (by have := run_len s I5; omega)) ?_
          rintro _ _ (⟨hI25q, rfl, yI25, rfl⟩ | ⟨I25, aI25, hI25a, hI25b, hI25q, rfl, rfl⟩)
          · skip
            intro _
            refine endW_p [b2] [] [b] [] ?_
            exact .inl ⟨by rw [← h4, hst, hI25q], rfl, yI25, by simp only [go_sem, wob, fb2]⟩
          try simp only [go_sem, wob, fb2]
          refine hK24 _ _ ?_
          try clear hK24 K24
          refine AWp.mask [false, true] rfl ?_
          simp only [go_sem]
          refine AWp.ret ?_
          try simp only [thenQ, blkQ]
          apply endW_r [b2] [] [b] [] (by (try simp only [go_sem, fb2]); rfl)
          · refine .inr ⟨I25, aI25, by omega, by omega, ?_, rfl, ?_⟩
            · rw [← h4, hst, hI25q]
            · simp only [go_sem, fb2]
          · simp only [LeA, LeL, LeD, and_self]
        · skip
          try simp only [decide_eq_false_iff_not, Bool.and_eq_false_iff] at hc2
          have hst0 := addr_word (first := decide (w = 0)) hsk hn34 hn60 hrn (fun h => by
            rcases hc2 with hc2 | hc2
            · exact head_no (c := 64) rfl (by simpa using hc2) h.2
            · have := h.1; simp at this; omega)
          refine AWp.skip ?_
          refine thenQ_n ?_
          refine hK22 _ _ ?_
          try clear hK22 K22
          refine AWp.rk fun K26 hK26 => ?_
          try simp only [go_sem]
          refine DW.acp [] [] rfl rfl rfl rfl (by (try simp only [go_sem]); rfl) rfl (must_c T _ _) ?_
          rintro _ _ (⟨hm27, rfl, rfl⟩ | ⟨hm27, rfl, rfl⟩)
          · skip
            intro _
            refine endW_p [b2] [] [b] [] ?_
            simp only [decide_eq_true_eq, Bool.not_eq_false'] at hm27
            exact .inl ⟨by rw [← h4, hst0, if_pos hm27], rfl, I21, by simp only [go_sem, fb2]⟩
          simp only [decide_eq_false_iff_not, Bool.not_eq_true'] at hm27
          have hlt := run_lt hrn hm27 (by omega)
          have hst := hst0.trans (if_neg hm27)
          try simp only [go_sem]
          refine hK26 _ _ ?_
          try clear hK26 K26
          refine blkQ_n (blkQ_n (thenQ_n ?_))
          refine hK3 _ _ ?_
          try clear hK3 K3
          refine AWp.mask [true, true, true] rfl ?_
          simp only [go_sem]
          refine AWp.rk fun K28 hK28 => ?_
          try simp only [go_sem, icast]
          (repeat (with_reducible refine And.intro ?_ ?_; omega))
          refine hK28 _ _ ?_
          try clear hK28 K28
          refine thenQ_n ?_
          refine EndS.mk [true, true] [false, false, true] [] [] [b2, b] [] rfl ?_ ?_
          · (try simp only [go_sem]) <;> try rfl
          refine .e ⟨_, ?_, I21, w + 1, rfl, ?_, ?_, ?_, ?_, ?_, ?_⟩
          · first | omega | (simp; omega) | (grind)
          · (try simp only [go_sem]) <;> first | exact ⟨rfl⟩ | (constructor; simp; done)
          · (try simp only [go_sem, fb2]) <;> first | exact ⟨rfl⟩ | (constructor; simp; done)
          · omega
          · omega
          · omega
          · rw [show decide (w + 1 = 0) = false by simp, ← h4]; exact hst.symm
end Go.Proofs.YthpkjmbdjnelfaaDoor

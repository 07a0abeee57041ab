/- Texts that the law BookFolds rests on, packed. -/
import Derived.Test.YthhfbolhlbgbgaaDoorHE
import Derived.Test.YthhfbolhlbgbgaaDoorHC
import Derived.Test.YthhfbolhlbgbgaaDoorGS
import Derived.Test.YthhfbolhlbgbgaaDoorGD
namespace Go.Proofs.YthhfbolhlbgbgaaDoor
set_option linter.unusedSimpArgs false
set_option linter.unusedVariables false
theorem addS_N {l : List BoxS} {i : Nat} {fl : Int} {tx : Tx} (h : ∀ y ∈ l, y.name.length ≤ 9223372036854775807) : ∀ y ∈ (addS l i fl tx).1, y.name.length ≤ 9223372036854775807 := by
  unfold addS
  split
  · exact h
  · rename_i x hx
    split
    · exact h
    · intro y hy
      rcases List.mem_or_eq_of_mem_set hy with hy | rfl
      · exact h y hy
      · exact h x (List.mem_of_getElem? hx)
theorem set_N {l : List BoxS} {i : Nat} {z : BoxS} (h : ∀ y ∈ l, y.name.length ≤ 9223372036854775807) (hz : z.name.length ≤ 9223372036854775807) : ∀ y ∈ l.set i z, y.name.length ≤ 9223372036854775807 := fun y hy => by
  rcases List.mem_or_eq_of_mem_set hy with hy | rfl
  · exact h y hy
  · exact hz
theorem apB_N {l : List BoxS} {i : Nat} {x : Ent} (h : ∀ y ∈ l, y.name.length ≤ 9223372036854775807) : ∀ y ∈ (apB l i x).1, y.name.length ≤ 9223372036854775807 := by
  unfold apB
  split
  · exact addS_N h
  split
  · exact h
  rename_i y hy
  have hyI := h y (List.mem_of_getElem? hy)
  split
  · exact set_N h hyI
  split
  · exact h
  split
  · exact set_N h hyI
  split
  · exact h
  split
  · exact h
  · exact addS_N h
theorem apS_N {s : St} {x : Ent} (h : StOk s) (hx : EntOk x) : StOk (apS s x).1 := by
  unfold apS
  split
  · split
    · exact h
    · exact ⟨h.nm, fun y hy => by
        rcases List.mem_append.1 hy with hy | hy
        · exact h.sp y hy
        · rw [List.mem_singleton.1 hy]; exact hx⟩
  split
  · split
    · exact h
    split
    · exact h
    · exact ⟨fun y hy => by
        rcases List.mem_append.1 hy with hy | hy
        · exact h.nm y hy
        · rw [List.mem_singleton.1 hy]; exact hx.box, h.sp⟩
  split
  · exact h
  · exact ⟨apB_N h.nm, h.sp⟩
theorem st0_N : StOk ⟨[], []⟩ := ⟨fun y hy => (by cases hy), fun y hy => (by cases hy)⟩
theorem all_FN : ∀ (l : List Ent) {s : St}, StOk s → (∀ x ∈ l, EntOk x) → StOk (allF s l).1
  | [], s, h, _ => h
  | x :: r, s, h, hl => by
    rw [allF]
    split
    · exact st0_N
    split
    · exact st0_N
    · exact all_FN r (apS_N h (hl x (List.mem_cons_self ..))) fun y hy => hl y (List.mem_cons_of_mem _ hy)
theorem all_N {s : St} {l : List Ent} (h : StOk s) (hl : ∀ x ∈ l, EntOk x) : StOk (allS s l).1 := by
  unfold allS
  split
  · exact st0_N
  split
  · exact st0_N
  · exact all_FN l h hl
theorem VD.row0 {F : Frz} {x y : D} {v : Value} (h : VD F (.slc 3 [[x, y, .slc 0 []]]) v) : VD F (.slc 3 [[x, y, .slc 3 []]]) v := by
  cases h with
  | slc k rows b off c val h0 hc hm hk hf hv =>
    refine .slc 3 [[x, y, .slc 3 []]] b off c val h0 hc hm (fun r hr => by rw [List.mem_singleton.1 hr]; rfl) (fun i r j z e1 e2 => ?_) (fun i r j z e1 e2 => ?_)
    · match i, e1 with
      | 0, e1 =>
        injection e1 with e1
        subst e1
        match j, e2 with
        | 0, e2 => exact hf 0 _ 0 x rfl rfl
        | 1, e2 => exact hf 0 _ 1 y rfl rfl
        | 2, e2 => exact hf 0 _ 2 _ rfl rfl
        | n + 3, e2 => cases e2
      | n + 1, e1 => cases e1
    · match i, e1 with
      | 0, e1 =>
        injection e1 with e1
        subst e1
        match j, e2 with
        | 0, e2 => injection e2 with e2; subst e2; exact hv 0 _ 0 x rfl rfl
        | 1, e2 => injection e2 with e2; subst e2; exact hv 0 _ 1 y rfl rfl
        | 2, e2 =>
          injection e2 with e2
          subst e2
          have := hv 0 _ 2 _ rfl rfl
          generalize val 0 2 = w at this
          cases this with
          | slc0 _ A c h hm => exact .slc0 3 A c h hm
          | slc _ rows b off c val h0 => exact absurd h0 (Nat.not_lt_zero _)
        | n + 3, e2 => cases e2
      | n + 1, e1 => cases e1
theorem AWp.row0 {P : Program} {T : Tbl} {Q : AQ} {sl : List AV} {code : Code} {L : List Nat} {b : Nat} {x y : D} {v : AV} {F : List (Nat × Ob)} (H : AWp P T code Q sl ⟨(b, ⟨2, 1, [[.d (.slc 3 [[x, y, .slc 3 []]]), v]]⟩) :: F, L⟩) : AWp P T code Q sl ⟨(b, ⟨2, 1, [[.d (.slc 3 [[x, y, .slc 0 []]]), v]]⟩) :: F, L⟩ := by
  intro G w a S R
  have := S.recell (b := b) (i := 0) (j := 0) (ob := ⟨2, 1, [[.d (.slc 3 [[x, y, .slc 0 []]]), v]]⟩) (r := [.d (.slc 3 [[x, y, .slc 0 []]]), v]) (by simp [getO]) rfl rfl (a' := .d (.slc 3 [[x, y, .slc 3 []]])) rfl fun u hu => by cases hu with | d h => exact .d h.row0
  simp [setO] at this
  exact H G w a this R
def bvD (p : Int × List Ent) : List D := [.int .i64 p.1, .slc 6 (entsD p.2)]
def bvsD (l : List (Int × List Ent)) : List (List D) := l.map bvD
@[go_sem] theorem bvsD_len (l : List (Int × List Ent)) : (bvsD l).length = l.length := by simp [bvsD]
theorem bvsD_get (l : List (Int × List Ent)) (i : Nat) (d : List D) (h : i < l.length) : (bvsD l).getD i d = bvD (l[i]'h) := map_getD bvD _ _ _ h
theorem bvsD_snoc {l : List (Int × List Ent)} {k : Nat} (h : k < l.length) : bvsD (l.take k) ++ [[.int .i64 (l[k]'h).1, .slc 6 (entsD (l[k]'h).2)]] = bvsD (l.take (k + 1)) := by rw [take_succ' h]; simp only [bvsD, List.map_append, List.map_cons, List.map_nil, bvD]
/-- the first fault of batches -/
def foldE : List (Int × List Ent) → Int
  | [] => 0
  | p :: r => if batE p.1 p.2 = 0 then foldE r else batE p.1 p.2
theorem fe_t {l : List (Int × List Ent)} {k : Nat} (h : k < l.length) (he : batE (l[k]'h).1 (l[k]'h).2 = 0) : foldE (l.drop k) = foldE (l.drop (k + 1)) := by rw [List.drop_eq_getElem_cons h, foldE, if_pos he]
theorem fe_f {l : List (Int × List Ent)} {k : Nat} (h : k < l.length) (he : ¬ batE (l[k]'h).1 (l[k]'h).2 = 0) : foldE (l.drop k) = batE (l[k]'h).1 (l[k]'h).2 := by rw [List.drop_eq_getElem_cons h, foldE, if_neg he]
theorem fe_end {l : List (Int × List Ent)} {k : Nat} (h : l.length ≤ k) : foldE (l.drop k) = 0 := by rw [List.drop_eq_nil_of_le h]; rfl
/-- batches of a user, done -/
def foldN (u : Int) : St → List (Int × List Ent) → St
  | s, [] => s
  | s, p :: r => if p.1 = u ∧ (allS s p.2).2 = 0 then foldN u (allS s p.2).1 r else foldN u s r
theorem fn_t {u : Int} {s : St} {l : List (Int × List Ent)} {k : Nat} (h : k < l.length) (hu : (l[k]'h).1 = u) (he : (allS s (l[k]'h).2).2 = 0) : foldN u s (l.drop k) = foldN u (allS s (l[k]'h).2).1 (l.drop (k + 1)) := by rw [List.drop_eq_getElem_cons h, foldN, if_pos ⟨hu, he⟩]
theorem fn_u {u : Int} {s : St} {l : List (Int × List Ent)} {k : Nat} (h : k < l.length) (hu : ¬ (l[k]'h).1 = u) : foldN u s (l.drop k) = foldN u s (l.drop (k + 1)) := by rw [List.drop_eq_getElem_cons h, foldN, if_neg (fun e => hu e.1)]
theorem fn_f {u : Int} {s : St} {l : List (Int × List Ent)} {k : Nat} (h : k < l.length) (he : ¬ (allS s (l[k]'h).2).2 = 0) : foldN u s (l.drop k) = foldN u s (l.drop (k + 1)) := by rw [List.drop_eq_getElem_cons h, foldN, if_neg (fun e => he e.2)]
theorem fn_end {u : Int} {s : St} {l : List (Int × List Ent)} {k : Nat} (h : l.length ≤ k) : foldN u s (l.drop k) = s := by rw [List.drop_eq_nil_of_le h]; rfl
def inbox : Tx := [73, 78, 66, 79, 88]
def inbS : St := ⟨[⟨inbox, 1, []⟩], []⟩
def inbE : Ent := ⟨1, inbox, 0, 0, [], []⟩
theorem inb_N : StOk inbS := ⟨fun y hy => (by rw [List.mem_singleton.1 hy]; decide), fun y hy => (by cases hy)⟩
theorem inb_I : InvS inbS := ⟨by decide, by decide, fun y hy => by rw [List.mem_singleton.1 hy]; exact ⟨by decide, by decide, fun m hm => by cases hm⟩⟩
theorem inb_a : allS ⟨[], []⟩ [inbE] = (inbS, 0) := rfl
def foldV (l : List (Int × List Ent)) (u : Int) : St × Int := if ¬ foldE l = 0 then (⟨[], []⟩, foldE l) else if u < 0 ∨ 3 ≤ u then (⟨[], []⟩, 6) else (foldN u inbS l, 0)
theorem fv_e {l : List (Int × List Ent)} {u : Int} (h : ¬ foldE l = 0) : foldV l u = (⟨[], []⟩, foldE l) := if_pos h
theorem fv_6 {l : List (Int × List Ent)} {u : Int} (h : foldE l = 0) (h1 : u < 0 ∨ 3 ≤ u) : foldV l u = (⟨[], []⟩, 6) := by rw [foldV, if_neg (by simp [h]), if_pos h1]
theorem fv_0 {l : List (Int × List Ent)} {u : Int} (h : foldE l = 0) (h1 : ¬ (u < 0 ∨ 3 ≤ u)) : foldV l u = (foldN u inbS l, 0) := by rw [foldV, if_neg (by simp [h]), if_neg h1]
theorem fn_I {u : Int} : ∀ (l : List (Int × List Ent)) {s : St}, InvS s → InvS (foldN u s l)
  | [], s, h => h
  | p :: r, s, h => by
    rw [foldN]
    split
    · exact fn_I r (all_SI _ _)
    · exact fn_I r h
theorem fv_I (l : List (Int × List Ent)) (u : Int) : InvS (foldV l u).1 := by
  unfold foldV
  split
  · exact ⟨by simp, by simp, fun y hy => by cases hy⟩
  split
  · exact ⟨by simp, by simp, fun y hy => by cases hy⟩
  · exact fn_I l inb_I
set_option maxRecDepth 4000 in
set_option maxHeartbeats 1000000 in
theorem Fold_c (T : Tbl) (hL : LibT T) (l : List (Int × List Ent)) (u : Int) (okl : ∀ p ∈ l, ∀ x ∈ p.2, EntOk x) (hl : l.length * 32 ≤ 140737488355328) : PC Tryd.prog T 34 [.d (.slc 2 (bvsD l)), .d (.int .i64 u)] (.tup [.agg (stateA (foldV l u).1), .d (.int .i64 ((foldV l u).2))]) := by
  refine ⟨Tryd.call34, PCall.enterS Tryd.func34 rfl Tryd.ntmps34 rfl fun hb => ?_⟩
  simp only [go_sem, Tryd.results34]
  refine AWp.rs fun K1 hK1 => ?_
  try simp only [go_sem]
  intro b4
  first | intro fb4 | have fb4 := True.intro
  try simp only [freshL] at fb4
  refine hK1 _ _ ?_
  try clear hK1 K1
  refine AWp.seq fun K2 hK2 => ?_
  refine AWp.rs fun K3 hK3 => ?_
  try simp only [go_sem]
  refine hK3 _ _ ?_
  try clear hK3 K3
  refine AWp.block ?_
  refine AWp.mask [true, true, true, false, true, true, true] rfl ?_
  simp only [go_sem]
  refine AWp.loopS [true, true, true, true, true] [false, false, false, false, false, true] (fun n lc hc => ∃ (k : Nat), n = l.length - k ∧ EqS lc [(17, .d (.int .i64 k))] ∧ EqS hc (⟨[(b4, ⟨2, 1, [[.nils, .nils]]⟩)], []⟩) ∧ (k ≤ l.length) ∧ (foldE l = foldE (l.drop k))) rfl ?_ ?_
  · refine ⟨_, 0, rfl, ?_, ?_, ?_, ?_⟩
    · (try simp only [go_sem]) <;> first | exact ⟨rfl⟩ | (constructor; simp; done)
    · (try simp only [go_sem, icast, bvD, fb4]) <;> first | exact ⟨rfl⟩ | (constructor; simp; done)
    all_goals (first | omega | rfl)
  · rintro _ _ _ ⟨k, rfl, ⟨rfl⟩, ⟨rfl⟩, h1, h2⟩
    simp only [go_sem]
    refine AWp.rs fun K4 hK4 => ?_
    try simp only [go_sem]
    refine hK4 _ _ ?_
    try clear hK4 K4
    refine AWp.seq fun K5 hK5 => ?_
    refine AWp.cond _ rfl (fun hc0 => ?_) (fun hc0 => ?_)
    · skip
      try simp only [decide_eq_true_eq] at hc0
      have hlt : k < l.length := by omega
      have hki : (k : Int) < (l.length : Int) := by omega
      refine AWp.skip ?_
      refine thenQ_n ?_
      refine hK5 _ _ ?_
      try clear hK5 K5
      refine AWp.seq fun K6 hK6 => ?_
      refine AWp.block ?_
      refine AWp.rs fun K7 hK7 => ?_
      try simp only [go_sem, bvD, bvsD_get l k _ hlt, hki]
      intro b8
      first | intro fb8 | have fb8 := True.intro
      try simp only [freshL] at fb8
      refine hK7 _ _ ?_
      try clear hK7 K7
      refine AWp.rs fun K9 hK9 => ?_
      try simp only [go_sem, fb8]
      refine DW.pcr rfl rfl rfl rfl (Check_c T hL _ _ (okl _ (List.getElem_mem hlt))) rfl rfl ?_
      try simp only [go_sem]
      refine hK9 _ _ ?_
      try clear hK9 K9
      refine AWp.mask [true, true, true, false, true, true, true, true] rfl ?_
      simp only [go_sem]
      refine AWp.rs fun K10 hK10 => ?_
      try simp only [go_sem]
      refine hK10 _ _ ?_
      try clear hK10 K10
      refine AWp.cond _ rfl (fun hc1 => ?_) (fun hc1 => ?_)
      · skip
        try simp only [decide_eq_false_iff_not, Bool.not_eq_true'] at hc1
        refine AWp.rs fun K11 hK11 => ?_
        try simp only [go_sem, fb8]
        refine hK11 _ _ ?_
        try clear hK11 K11
        refine AWp.mask [false, false, true, true] rfl ?_
        simp only [go_sem]
        refine AWp.ret ?_
        try simp only [go_sem, fb8]
        rw [fv_e (by rw [h2, fe_f hlt hc1]; exact hc1), h2, fe_f hlt hc1]; simp [boxesD, entsD]
      · skip
        try simp only [decide_eq_true_eq, Bool.not_eq_false'] at hc1
        have hf : batE (l[k]'hlt).1 (l[k]'hlt).2 = 0 := by omega
        refine AWp.skip ?_
        refine blkQ_n (thenQ_n ?_)
        refine hK6 _ _ ?_
        try clear hK6 K6
        refine AWp.rk fun K12 hK12 => ?_
        try simp only [go_sem, icast]
        (repeat (with_reducible refine And.intro ?_ ?_; omega))
        refine hK12 _ _ ?_
        try clear hK12 K12
        refine thenQ_n ?_
        refine EndS.mk [true, true, true, false, true, true] [false, false, false, false, false, false, true] [b8] [] [b4] [] rfl ?_ ?_
        · (try simp only [go_sem]) <;> try rfl
        refine .e ⟨_, ?_, k + 1, rfl, ?_, ?_, ?_, ?_⟩
        · first | omega | (simp; omega) | (grind)
        · (try simp only [go_sem]) <;> first | exact ⟨rfl⟩ | (constructor; simp; done)
        · (try simp only [go_sem, fb8]) <;> first | exact ⟨rfl⟩ | (constructor; simp; done)
        · omega
        · rw [h2, fe_t hlt hf]
    · skip
      try simp only [decide_eq_false_iff_not, Int.not_lt] at hc0
      have hE : foldE l = 0 := by rw [h2, fe_end (by omega)]
      refine AWp.exit ?_
      refine thenQ_e (thenQ_e (blkQ_e (thenQ_n ?_)))
      refine hK2 _ _ ?_
      try clear hK2 K2
      refine AWp.mask [true, true, true] rfl ?_
      simp only [go_sem]
      refine AWp.seq fun K13 hK13 => ?_
      refine AWp.rs fun K14 hK14 => ?_
      try simp only [go_sem]
      (repeat (with_reducible refine And.intro ?_ ?_; (exact nfB)))
      refine hK14 _ _ ?_
      try clear hK14 K14
      refine AWp.mask [true, true, true, false, false, false, false, false, true] rfl ?_
      simp only [go_sem]
      refine AWp.cond _ rfl (fun hc2 => ?_) (fun hc2 => ?_)
      · skip
        try simp only [decide_eq_true_eq, Bool.or_eq_true] at hc2
        refine AWp.rs fun K15 hK15 => ?_
        try simp only [go_sem]
        refine hK15 _ _ ?_
        try clear hK15 K15
        refine AWp.mask [false, false, true, true] rfl ?_
        simp only [go_sem]
        refine AWp.ret ?_
        try simp only [go_sem]
        rw [fv_6 hE (by omega)]; simp [boxesD, entsD]
      · skip
        try simp only [decide_eq_false_iff_not, Bool.or_eq_false_iff, Int.not_lt, Int.not_le] at hc2
        refine AWp.skip ?_
        refine thenQ_n ?_
        refine hK13 _ _ ?_
        try clear hK13 K13
        refine AWp.rs fun K16 hK16 => ?_
        try simp only [go_sem]
        refine DW.acp [] [] rfl rfl rfl rfl (by (try simp only [go_sem]); rfl) rfl (AC.le (args := [.agg [.nils, .nils], .agg (entA inbE)]) (Apply_c T hL ⟨[], []⟩ inbE st0_N ⟨by decide, by decide, by decide⟩ _ _) (by simp [LeL, LeA, LeD, stateA, entA, inbE, inbox, boxesD, entsD])) ?_
        rintro _ _ ⟨rfl, rfl⟩
        simp only [inb_a]
        try simp only [go_sem]
        intro b9
        first | intro fb9 | have fb9 := True.intro
        try simp only [freshL] at fb9
        refine hK16 _ _ ?_
        try clear hK16 K16
        refine AWp.mask [true, true, true, true] rfl ?_
        simp only [go_sem]
        refine AWp.seq fun K17 hK17 => ?_
        refine AWp.rs fun K18 hK18 => ?_
        try simp only [go_sem]
        refine hK18 _ _ ?_
        try clear hK18 K18
        refine AWp.block ?_
        refine AWp.mask [false, true, true, true, true, true, true] rfl ?_
        simp only [go_sem]
        refine AWp.loopS [true, true, true, true, true] [false, false, false, false, false, true] (fun n lc hc => ∃ (k : Nat) (s2 : St), n = l.length - k ∧ EqS lc [(43, .d (.int .i64 k))] ∧ EqS hc (⟨[(b9, ⟨2, 1, [stateA s2]⟩), (b4, ⟨2, 1, [[.nils, .nils]]⟩)], []⟩) ∧ (k ≤ l.length) ∧ (StOk s2) ∧ (foldN u inbS l = foldN u s2 (l.drop k))) rfl ?_ ?_
        · refine ⟨_, 0, inbS, rfl, ?_, ?_, ?_, ?_, ?_⟩
          · (try simp only [go_sem]) <;> first | exact ⟨rfl⟩ | (constructor; simp; done)
          · (try simp only [go_sem]) <;> first | exact ⟨rfl⟩ | (constructor; simp; done)
          all_goals (first | omega | exact inb_N | rfl)
        · rintro _ _ _ ⟨k, s2, rfl, ⟨rfl⟩, ⟨rfl⟩, h1, h2, h3⟩
          simp only [go_sem]
          refine AWp.rs fun K19 hK19 => ?_
          try simp only [go_sem]
          refine hK19 _ _ ?_
          try clear hK19 K19
          refine AWp.seq fun K20 hK20 => ?_
          refine AWp.cond _ rfl (fun hc3 => ?_) (fun hc3 => ?_)
          · skip
            try simp only [decide_eq_true_eq] at hc3
            have hlt : k < l.length := by omega
            have hki : (k : Int) < (l.length : Int) := by omega
            refine AWp.skip ?_
            refine thenQ_n ?_
            refine hK20 _ _ ?_
            try clear hK20 K20
            refine AWp.seq fun K21 hK21 => ?_
            refine AWp.block ?_
            refine AWp.rs fun K22 hK22 => ?_
            try simp only [go_sem, bvD, bvsD_get l k _ hlt, hki]
            intro b12
            first | intro fb12 | have fb12 := True.intro
            try simp only [freshL] at fb12
            refine hK22 _ _ ?_
            try clear hK22 K22
            refine AWp.seq fun K23 hK23 => ?_
            refine AWp.rs fun K24 hK24 => ?_
            try simp only [go_sem, fb12]
            refine hK24 _ _ ?_
            try clear hK24 K24
            refine AWp.mask [true, true, true, true, true, true, true, false, false, false, false, false, false, true] rfl ?_
            simp only [go_sem]
            refine AWp.cond _ rfl (fun hc4 => ?_) (fun hc4 => ?_)
            · skip
              try simp only [decide_eq_false_iff_not, Bool.not_eq_true'] at hc4
              refine AWp.exit ?_
              refine thenQ_e (blkQ_e (thenQ_n ?_))
              refine hK21 _ _ ?_
              try clear hK21 K21
              refine AWp.rk fun K25 hK25 => ?_
              try simp only [go_sem, icast]
              (repeat (with_reducible refine And.intro ?_ ?_; omega))
              refine hK25 _ _ ?_
              try clear hK25 K25
              refine thenQ_n ?_
              refine EndS.mk [true, true, true, false, true, true] [false, false, false, false, false, false, true] [b12] [] [b9, b4] [] rfl ?_ ?_
              · (try simp only [go_sem]) <;> try rfl
              refine .e ⟨_, ?_, k + 1, s2, rfl, ?_, ?_, ?_, ?_, ?_⟩
              · first | omega | (simp; omega) | (grind)
              · (try simp only [go_sem]) <;> first | exact ⟨rfl⟩ | (constructor; simp; done)
              · (try simp only [go_sem, fb9, fb12]) <;> first | exact ⟨rfl⟩ | (constructor; simp; done)
              · omega
              · exact h2
              · rw [h3, fn_u hlt hc4]
            · skip
              try simp only [decide_eq_true_eq, Bool.not_eq_false'] at hc4
              refine AWp.skip ?_
              refine thenQ_n ?_
              refine hK23 _ _ ?_
              try clear hK23 K23
              refine AWp.rs fun K26 hK26 => ?_
              try simp only [go_sem, fb9, fb12]
              refine DW.acp [] [] rfl rfl rfl rfl (by (try simp only [go_sem]); rfl) rfl (All_c T hL s2 (l[k]'hlt).2 h2 (okl _ (List.getElem_mem hlt)) _ _) ?_
              rintro _ _ ⟨rfl, rfl⟩
              try simp only [go_sem]
              intro b13
              first | intro fb13 | have fb13 := True.intro
              try simp only [freshL] at fb13
              refine hK26 _ _ ?_
              try clear hK26 K26
              refine AWp.mask [true, true, true, false, true, true, true, true, true] rfl ?_
              simp only [go_sem]
              refine AWp.rs fun K27 hK27 => ?_
              try simp only [go_sem]
              refine hK27 _ _ ?_
              try clear hK27 K27
              refine AWp.cond _ rfl (fun hc5 => ?_) (fun hc5 => ?_)
              · skip
                try simp only [decide_eq_true_eq] at hc5
                refine AWp.rk fun K28 hK28 => ?_
                try simp only [go_sem, fb9, fb12, fb13]
                refine hK28 _ _ ?_
                try clear hK28 K28
                refine blkQ_n (thenQ_n ?_)
                refine hK21 _ _ ?_
                try clear hK21 K21
                refine AWp.mask [true, true, true, false, false, true, true, true] rfl ?_
                simp only [go_sem]
                refine AWp.rk fun K29 hK29 => ?_
                try simp only [go_sem, icast]
                (repeat (with_reducible refine And.intro ?_ ?_; omega))
                refine hK29 _ _ ?_
                try clear hK29 K29
                refine thenQ_n ?_
                refine EndS.mk [true, true, true, true, true] [false, false, false, false, false, true] [b12, b13] [] [b9, b4] [] rfl ?_ ?_
                · (try simp only [go_sem]) <;> try rfl
                refine .e ⟨_, ?_, k + 1, (allS s2 (l[k]'hlt).2).1, rfl, ?_, ?_, ?_, ?_, ?_⟩
                · first | omega | (simp; omega) | (grind)
                · (try simp only [go_sem]) <;> first | exact ⟨rfl⟩ | (constructor; simp; done)
                · (try simp only [go_sem, fb9, fb12, fb13]) <;> first | exact ⟨rfl⟩ | (constructor; simp; done)
                · omega
                · exact all_N h2 (okl _ (List.getElem_mem hlt))
                · rw [h3, fn_t hlt hc4 hc5]
              · skip
                try simp only [decide_eq_false_iff_not] at hc5
                refine AWp.skip ?_
                refine blkQ_n (thenQ_n ?_)
                refine hK21 _ _ ?_
                try clear hK21 K21
                refine AWp.mask [true, true, true, false, false, true, true, true] rfl ?_
                simp only [go_sem]
                refine AWp.rk fun K30 hK30 => ?_
                try simp only [go_sem, icast]
                (repeat (with_reducible refine And.intro ?_ ?_; omega))
                refine hK30 _ _ ?_
                try clear hK30 K30
                refine thenQ_n ?_
                refine EndS.mk [true, true, true, true, true] [false, false, false, false, false, true] [b12, b13] [] [b9, b4] [] rfl ?_ ?_
                · (try simp only [go_sem]) <;> try rfl
                refine .e ⟨_, ?_, k + 1, s2, rfl, ?_, ?_, ?_, ?_, ?_⟩
                · first | omega | (simp; omega) | (grind)
                · (try simp only [go_sem]) <;> first | exact ⟨rfl⟩ | (constructor; simp; done)
                · (try simp only [go_sem, fb9, fb12, fb13]) <;> first | exact ⟨rfl⟩ | (constructor; simp; done)
                · omega
                · exact h2
                · rw [h3, fn_f hlt hc5]
          · skip
            try simp only [decide_eq_false_iff_not, Int.not_lt] at hc3
            refine AWp.exit ?_
            refine thenQ_e (thenQ_e (blkQ_e (thenQ_n ?_)))
            refine hK17 _ _ ?_
            try clear hK17 K17
            refine AWp.mask [false, true, true] rfl ?_
            simp only [go_sem]
            refine AWp.rs fun K31 hK31 => ?_
            try simp only [go_sem, fb9]
            refine hK31 _ _ ?_
            try clear hK31 K31
            refine AWp.ret ?_
            try simp only [go_sem, fb9]
            rw [fv_0 hE (by omega), h3, fn_end (by omega)]; simp [boxesD, entsD]
set_option maxRecDepth 4000 in
set_option maxHeartbeats 1000000 in
theorem folded_c (T : Tbl) (hL : LibT T) (l : List (Int × List Ent)) (u : Int) (okl : ∀ p ∈ l, ∀ x ∈ p.2, EntOk x) (hl : l.length * 32 ≤ 140737488355328) : PC Tryd.prog T 73 [.d (.slc 2 (bvsD l)), .d (.int .i64 u)] (.agg (stateA (foldN u inbS l))) := by
  refine ⟨Tryd.call73, PCall.enterS Tryd.func73 rfl Tryd.ntmps73 rfl fun hb => ?_⟩
  simp only [go_sem, Tryd.results73]
  refine AWp.rs fun K1 hK1 => ?_
  try simp only [go_sem]
  intro b4
  first | intro fb4 | have fb4 := True.intro
  try simp only [freshL] at fb4
  refine hK1 _ _ ?_
  try clear hK1 K1
  refine AWp.rs fun K2 hK2 => ?_
  try simp only [go_sem]
  intro b5
  first | intro fb5 | have fb5 := True.intro
  try simp only [freshL] at fb5
  refine hK2 _ _ ?_
  try clear hK2 K2
  refine AWp.seq fun K3 hK3 => ?_
  refine AWp.rs fun K4 hK4 => ?_
  try simp only [go_sem]
  refine hK4 _ _ ?_
  try clear hK4 K4
  refine AWp.block ?_
  refine AWp.mask [true, true, true, true, true] rfl ?_
  simp only [go_sem]
  refine AWp.row0 ?_
  refine AWp.wkH [(b5, ⟨2, 1, [stateA inbS]⟩), (b4, ⟨2, 1, [[.nils, .nils]]⟩)] (by simp [LeObs, LeRows, LeA, LeL, LeD, AV.one, stateA, inbS, boxesD, boxD, inbox, mailsD, entsD]) ?_
  refine AWp.loopS [true, true, true, true] [false, false, false, false, true] (fun n lc hc => ∃ (k : Nat) (s2 : St), n = l.length - k ∧ EqS lc [(6, .d (.int .i64 k))] ∧ EqS hc (⟨[(b5, ⟨2, 1, [stateA s2]⟩), (b4, ⟨2, 1, [[.nils, .nils]]⟩)], []⟩) ∧ (k ≤ l.length) ∧ (StOk s2) ∧ (foldN u inbS l = foldN u s2 (l.drop k))) rfl ?_ ?_
  · refine ⟨_, 0, inbS, rfl, ?_, ?_, ?_, ?_, ?_⟩
    · (try simp only [go_sem]) <;> first | exact ⟨rfl⟩ | (constructor; simp; done)
    · (try simp only [go_sem]) <;> first | exact ⟨rfl⟩ | (constructor; simp; done)
    all_goals (first | omega | exact inb_N | rfl)
  · rintro _ _ _ ⟨k, s2, rfl, ⟨rfl⟩, ⟨rfl⟩, h1, h2, h3⟩
    simp only [go_sem]
    refine AWp.seq fun K5 hK5 => ?_
    refine AWp.rs fun K6 hK6 => ?_
    try simp only [go_sem]
    refine hK6 _ _ ?_
    try clear hK6 K6
    refine AWp.cond _ rfl (fun hc0 => ?_) (fun hc0 => ?_)
    · skip
      try simp only [decide_eq_true_eq] at hc0
      have hlt : k < l.length := by omega
      have hki : (k : Int) < (l.length : Int) := by omega
      refine AWp.skip ?_
      refine thenQ_n ?_
      refine hK5 _ _ ?_
      try clear hK5 K5
      refine AWp.mask [true, true, true, true, true] rfl ?_
      simp only [go_sem]
      refine AWp.seq fun K7 hK7 => ?_
      refine AWp.block ?_
      refine AWp.seq fun K8 hK8 => ?_
      refine AWp.rs fun K9 hK9 => ?_
      try simp only [go_sem, bvD, bvsD_get l k _ hlt, hki]
      refine hK9 _ _ ?_
      try clear hK9 K9
      refine AWp.mask [true, true, true, true, true, false, false, false, false, false, false, true] rfl ?_
      simp only [go_sem]
      refine AWp.cond _ rfl (fun hc1 => ?_) (fun hc1 => ?_)
      · skip
        try simp only [decide_eq_false_iff_not, Bool.not_eq_true'] at hc1
        refine AWp.exit ?_
        refine thenQ_e (blkQ_e (thenQ_n ?_))
        refine hK7 _ _ ?_
        try clear hK7 K7
        refine AWp.rk fun K10 hK10 => ?_
        try simp only [go_sem, icast]
        (repeat (with_reducible refine And.intro ?_ ?_; omega))
        refine hK10 _ _ ?_
        try clear hK10 K10
        refine thenQ_n ?_
        refine EndS.mk [true, true, true, true] [false, false, false, false, true] [] [] [b5, b4] [] rfl ?_ ?_
        · (try simp only [go_sem]) <;> try rfl
        refine .e ⟨_, ?_, k + 1, s2, rfl, ?_, ?_, ?_, ?_, ?_⟩
        · first | omega | (simp; omega) | (grind)
        · (try simp only [go_sem]) <;> first | exact ⟨rfl⟩ | (constructor; simp; done)
        · (try simp only [go_sem, fb5]) <;> first | exact ⟨rfl⟩ | (constructor; simp; done)
        · omega
        · exact h2
        · rw [h3, fn_u hlt hc1]
      · skip
        try simp only [decide_eq_true_eq, Bool.not_eq_false'] at hc1
        refine AWp.skip ?_
        refine thenQ_n ?_
        refine hK8 _ _ ?_
        try clear hK8 K8
        refine AWp.dsN true [] [0, 1, 2, 3, 4, 5, 6, 7, 8, 9] [10] 11 [12] rfl (by kernel_rfl) rfl fun K11 hK11 => ?_
        try simp only [go_sem]
        refine Exists.intro (fun h' : AH => getO b5 h'.objs = some ⟨2, 1, [stateA s2]⟩) (And.intro (by simp [getO, stateA]) ?_)
        try simp only [go_sem]
        refine FRN.ld rfl rfl (fun h' m1 => (by first | rfl | (simp only [go_sem, m1]; first | done | rfl | exact ⟨by omega, rfl⟩))) ?_
        try simp only [go_sem]
        refine FRN.op rfl (fun h' => (by first | rfl | (simp only [go_sem]; first | done | rfl | exact ⟨by omega, rfl⟩))) ?_
        try simp only [go_sem]
        refine FRN.op rfl (fun h' => (by first | rfl | (simp only [go_sem]; first | done | rfl | exact ⟨by omega, rfl⟩))) ?_
        try simp only [go_sem]
        refine FRN.op rfl (fun h' => (by first | rfl | (simp only [go_sem, hki]; first | done | rfl | exact ⟨by omega, rfl⟩))) ?_
        try simp only [go_sem]
        refine FRN.op rfl (fun h' => (by first | rfl | (simp only [go_sem]; first | done | rfl | exact ⟨by omega, rfl⟩))) ?_
        try simp only [go_sem]
        refine FRN.ld rfl rfl (fun h' m1 => (by first | rfl | (simp only [go_sem, bvD, bvsD_get l k _ hlt]; first | done | rfl | exact ⟨by omega, rfl⟩))) ?_
        try simp only [go_sem]
        refine FRN.call rfl rfl rfl rfl (Entered_p T hL s2 (l[k]'hlt).2 h2 (okl _ (List.getElem_mem hlt))) rfl rfl ?_
        try simp only [go_sem]
        refine FRN.op rfl (fun h' => (by first | rfl | (simp only [go_sem]; first | done | rfl | exact ⟨by omega, rfl⟩))) ?_
        try simp only [go_sem]
        refine FRN.op rfl (fun h' => (by first | rfl | (simp only [go_sem]; first | done | rfl | exact ⟨by omega, rfl⟩))) ?_
        try simp only [go_sem]
        refine FRN.op rfl (fun h' => (by first | rfl | (simp only [go_sem]; first | done | rfl | exact ⟨by omega, rfl⟩))) ?_
        try simp only [go_sem]
        refine FRN.nil ?_
        refine lvc_ok _ _ _ ?_
        try simp only [go_sem, fb5]
        intro b7
        first | intro fb7 | have fb7 := True.intro
        try simp only [freshL] at fb7
        try simp only [go_sem, fb7]
        first | with_reducible refine And.intro (by simp [getO, stateA, icast, bvD, fb4, fb5, bvsD_get l k _ hlt, hki, fb7]) ?_ | skip
        refine lvc_ok _ _ _ ?_
        try simp only [go_sem, fb7]
        refine hK11 _ _ ?_
        try clear hK11 K11
        refine AWp.mask [true, true, true, true, true, true, true] rfl ?_
        simp only [go_sem]
        refine AWp.rs fun K12 hK12 => ?_
        try simp only [go_sem]
        refine hK12 _ _ ?_
        try clear hK12 K12
        refine AWp.cond _ rfl (fun hc2 => ?_) (fun hc2 => ?_)
        · skip
          try simp only [decide_eq_true_eq] at hc2
          refine AWp.rk fun K13 hK13 => ?_
          try simp only [go_sem, fb5, fb7]
          refine hK13 _ _ ?_
          try clear hK13 K13
          refine blkQ_n (thenQ_n ?_)
          refine hK7 _ _ ?_
          try clear hK7 K7
          refine AWp.mask [true, true, true, true, true] rfl ?_
          simp only [go_sem]
          refine AWp.rk fun K14 hK14 => ?_
          try simp only [go_sem, icast]
          (repeat (with_reducible refine And.intro ?_ ?_; omega))
          refine hK14 _ _ ?_
          try clear hK14 K14
          refine thenQ_n ?_
          refine EndS.mk [true, true, true, true] [false, false, false, false, true] [b7] [] [b5, b4] [] rfl ?_ ?_
          · (try simp only [go_sem]) <;> try rfl
          refine .e ⟨_, ?_, k + 1, (allS s2 (l[k]'hlt).2).1, rfl, ?_, ?_, ?_, ?_, ?_⟩
          · first | omega | (simp; omega) | (grind)
          · (try simp only [go_sem]) <;> first | exact ⟨rfl⟩ | (constructor; simp; done)
          · (try simp only [go_sem, fb5, fb7]) <;> first | exact ⟨rfl⟩ | (constructor; simp; done)
          · omega
          · exact all_N h2 (okl _ (List.getElem_mem hlt))
          · rw [h3, fn_t hlt hc1 hc2]
        · skip
          try simp only [decide_eq_false_iff_not] at hc2
          refine AWp.skip ?_
          refine blkQ_n (thenQ_n ?_)
          refine hK7 _ _ ?_
          try clear hK7 K7
          refine AWp.mask [true, true, true, true, true] rfl ?_
          simp only [go_sem]
          refine AWp.rk fun K15 hK15 => ?_
          try simp only [go_sem, icast]
          (repeat (with_reducible refine And.intro ?_ ?_; omega))
          refine hK15 _ _ ?_
          try clear hK15 K15
          refine thenQ_n ?_
          refine EndS.mk [true, true, true, true] [false, false, false, false, true] [b7] [] [b5, b4] [] rfl ?_ ?_
          · (try simp only [go_sem]) <;> try rfl
          refine .e ⟨_, ?_, k + 1, s2, rfl, ?_, ?_, ?_, ?_, ?_⟩
          · first | omega | (simp; omega) | (grind)
          · (try simp only [go_sem]) <;> first | exact ⟨rfl⟩ | (constructor; simp; done)
          · (try simp only [go_sem, fb5, fb7]) <;> first | exact ⟨rfl⟩ | (constructor; simp; done)
          · omega
          · exact h2
          · rw [h3, fn_f hlt hc2]
    · skip
      try simp only [decide_eq_false_iff_not, Int.not_lt] at hc0
      refine AWp.exit ?_
      refine thenQ_e (thenQ_e (blkQ_e (thenQ_n ?_)))
      refine hK3 _ _ ?_
      try clear hK3 K3
      refine AWp.mask [false, false, true, true] rfl ?_
      simp only [go_sem]
      refine AWp.rs fun K16 hK16 => ?_
      try simp only [go_sem, fb5]
      refine hK16 _ _ ?_
      try clear hK16 K16
      refine AWp.ret ?_
      try simp only [go_sem, fb5]
      rw [h3, fn_end (by omega)]; simp [boxesD, entsD]
set_option maxRecDepth 4000 in
set_option maxHeartbeats 1000000 in
theorem BatchesFolded_c (T : Tbl) (hL : LibT T) (l : List (Int × List Ent)) (u : Int) (okl : ∀ p ∈ l, ∀ x ∈ p.2, EntOk x) (hl : l.length * 32 ≤ 140737488355328) : PC Tryd.prog T 35 [.d (.slc 2 (bvsD l)), .d (.int .i64 u)] (.tup [.agg (stateA (foldV l u).1), .d (.int .i64 ((foldV l u).2))]) := by
  refine ⟨Tryd.call35, PCall.enterS Tryd.func35 rfl Tryd.ntmps35 rfl fun hb => ?_⟩
  simp only [go_sem, Tryd.results35]
  refine AWp.rs fun K1 hK1 => ?_
  try simp only [go_sem]
  intro b4
  first | intro fb4 | have fb4 := True.intro
  try simp only [freshL] at fb4
  refine hK1 _ _ ?_
  try clear hK1 K1
  refine AWp.seq fun K2 hK2 => ?_
  refine AWp.rs fun K3 hK3 => ?_
  try simp only [go_sem]
  refine hK3 _ _ ?_
  try clear hK3 K3
  refine AWp.block ?_
  refine AWp.mask [true, true, true, false, true] rfl ?_
  simp only [go_sem]
  refine AWp.loopS [true, true, true] [false, false, false, true] (fun n lc hc => ∃ (k : Nat), n = l.length - k ∧ EqS lc [(6, .d (.int .i64 k))] ∧ EqS hc (⟨[(b4, ⟨2, 1, [[.nils, .nils]]⟩)], []⟩) ∧ (k ≤ l.length) ∧ (foldE l = foldE (l.drop k))) rfl ?_ ?_
  · refine ⟨_, 0, rfl, ?_, ?_, ?_, ?_⟩
    · (try simp only [go_sem]) <;> first | exact ⟨rfl⟩ | (constructor; simp; done)
    · (try simp only [go_sem, icast, bvD, fb4]) <;> first | exact ⟨rfl⟩ | (constructor; simp; done)
    all_goals (first | omega | rfl)
  · rintro _ _ _ ⟨k, rfl, ⟨rfl⟩, ⟨rfl⟩, h1, h2⟩
    simp only [go_sem]
    refine AWp.seq fun K4 hK4 => ?_
    refine AWp.rs fun K5 hK5 => ?_
    try simp only [go_sem]
    refine hK5 _ _ ?_
    try clear hK5 K5
    refine AWp.cond _ rfl (fun hc0 => ?_) (fun hc0 => ?_)
    · skip
      try simp only [decide_eq_true_eq] at hc0
      have hlt : k < l.length := by omega
      have hki : (k : Int) < (l.length : Int) := by omega
      refine AWp.skip ?_
      refine thenQ_n ?_
      refine hK4 _ _ ?_
      try clear hK4 K4
      refine AWp.mask [true, true, true, true] rfl ?_
      simp only [go_sem]
      refine AWp.seq fun K6 hK6 => ?_
      refine AWp.block ?_
      refine AWp.rs fun K7 hK7 => ?_
      try simp only [go_sem, bvD, bvsD_get l k _ hlt, hki]
      refine DW.pcr rfl rfl rfl rfl (BatchFault_c T hL _ _ (okl _ (List.getElem_mem hlt))) rfl rfl ?_
      try simp only [go_sem]
      refine hK7 _ _ ?_
      try clear hK7 K7
      refine AWp.mask [true, true, true, true, true] rfl ?_
      simp only [go_sem]
      refine AWp.rs fun K8 hK8 => ?_
      try simp only [go_sem]
      refine hK8 _ _ ?_
      try clear hK8 K8
      refine AWp.cond _ rfl (fun hc1 => ?_) (fun hc1 => ?_)
      · skip
        try simp only [decide_eq_false_iff_not, Bool.not_eq_true'] at hc1
        refine AWp.rs fun K9 hK9 => ?_
        try simp only [go_sem]
        refine hK9 _ _ ?_
        try clear hK9 K9
        refine AWp.mask [false, false, true, true] rfl ?_
        simp only [go_sem]
        refine AWp.ret ?_
        try simp only [go_sem]
        rw [fv_e (by rw [h2, fe_f hlt hc1]; exact hc1), h2, fe_f hlt hc1]; simp [boxesD, entsD]
      · skip
        try simp only [decide_eq_true_eq, Bool.not_eq_false'] at hc1
        have hf : batE (l[k]'hlt).1 (l[k]'hlt).2 = 0 := by omega
        refine AWp.skip ?_
        refine blkQ_n (thenQ_n ?_)
        refine hK6 _ _ ?_
        try clear hK6 K6
        refine AWp.rk fun K10 hK10 => ?_
        try simp only [go_sem, icast]
        (repeat (with_reducible refine And.intro ?_ ?_; omega))
        refine hK10 _ _ ?_
        try clear hK10 K10
        refine thenQ_n ?_
        refine EndS.mk [true, true, true] [false, false, false, true] [] [] [b4] [] rfl ?_ ?_
        · (try simp only [go_sem]) <;> try rfl
        refine .e ⟨_, ?_, k + 1, rfl, ?_, ?_, ?_, ?_⟩
        · first | omega | (simp; omega) | (grind)
        · (try simp only [go_sem]) <;> first | exact ⟨rfl⟩ | (constructor; simp; done)
        · (try simp only [go_sem]) <;> first | exact ⟨rfl⟩ | (constructor; simp; done)
        · omega
        · rw [h2, fe_t hlt hf]
    · skip
      try simp only [decide_eq_false_iff_not, Int.not_lt] at hc0
      have hE : foldE l = 0 := by rw [h2, fe_end (by omega)]
      refine AWp.exit ?_
      refine thenQ_e (thenQ_e (blkQ_e (thenQ_n ?_)))
      refine hK2 _ _ ?_
      try clear hK2 K2
      refine AWp.mask [true, true, true] rfl ?_
      simp only [go_sem]
      refine AWp.seq fun K11 hK11 => ?_
      refine AWp.rs fun K12 hK12 => ?_
      try simp only [go_sem]
      refine DW.pcr rfl rfl rfl rfl (In_c T _ _ _) rfl rfl ?_
      try simp only [go_sem]
      refine hK12 _ _ ?_
      try clear hK12 K12
      refine AWp.cond _ rfl (fun hc2 => ?_) (fun hc2 => ?_)
      · skip
        try simp only [decide_eq_false_iff_not, Bool.not_eq_true', Bool.and_eq_false_iff, Int.not_le] at hc2
        refine AWp.rs fun K13 hK13 => ?_
        try simp only [go_sem]
        refine hK13 _ _ ?_
        try clear hK13 K13
        refine AWp.mask [false, false, true, true] rfl ?_
        simp only [go_sem]
        refine AWp.ret ?_
        try simp only [go_sem]
        rw [fv_6 hE (by omega)]; simp [boxesD, entsD]
      · skip
        try simp only [decide_eq_true_eq, Bool.not_eq_false', Bool.and_eq_true] at hc2
        refine AWp.skip ?_
        refine thenQ_n ?_
        refine hK11 _ _ ?_
        try clear hK11 K11
        refine AWp.rs fun K14 hK14 => ?_
        try simp only [go_sem]
        refine DW.pcr rfl rfl rfl rfl (folded_c T hL l u okl hl) rfl rfl ?_
        try simp only [go_sem]
        refine hK14 _ _ ?_
        try clear hK14 K14
        refine AWp.mask [false, false, true, true] rfl ?_
        simp only [go_sem]
        refine AWp.ret ?_
        try simp only [go_sem]
        rw [fv_0 hE (by omega)]; simp [boxesD, entsD]
end Go.Proofs.YthhfbolhlbgbgaaDoor

namespace Go.Proofs.YthhfbolhlbgbgaaDoor
set_option linter.unusedSimpArgs false
set_option linter.unusedVariables false
set_option maxRecDepth 4000 in
set_option maxHeartbeats 1000000 in
theorem batches_c (T : Tbl) (l : List (Int × List Ent)) (hl : l.length * 32 ≤ 140737488355328) (hz : ∀ p ∈ l, p.2.length * 72 ≤ 140737488355328) : PC Tryd.prog T 33 [.d (.slc 2 (bvsD l))] (.d (.slc 2 (bvsD l))) := by
  refine ⟨Tryd.call33, PCall.enterS Tryd.func33 rfl Tryd.ntmps33 rfl fun hb => ?_⟩
  simp only [go_sem, Tryd.results33]
  refine AWp.rs fun K1 hK1 => ?_
  try simp only [go_sem]
  refine hK1 _ _ ?_
  try clear hK1 K1
  refine AWp.rs fun K2 hK2 => ?_
  try simp only [go_sem]
  refine hK2 _ _ ?_
  try clear hK2 K2
  refine AWp.seq fun K3 hK3 => ?_
  refine AWp.rs fun K4 hK4 => ?_
  try simp only [go_sem]
  refine hK4 _ _ ?_
  try clear hK4 K4
  refine AWp.block ?_
  refine AWp.mask [true, false, true, true] rfl ?_
  simp only [go_sem]
  refine AWp.ownNilS 3 2 rfl rfl (by decide) fun t0 ft0 => ?_
  try simp only [freshT] at ft0
  simp only [go_sem]
  refine AWp.loopS [true] [false, true, true] (fun n lc hc => ∃ (k w : Nat), n = l.length - k ∧ EqS lc [(3, .own w 2 (bvsD (l.take k))), (4, .d (.int .i64 k))] ∧ EqS hc (⟨[], [w]⟩) ∧ (k ≤ l.length)) rfl ?_ ?_
  · refine ⟨_, 0, t0, rfl, ?_, ?_, ?_⟩
    · (try simp only [go_sem]) <;> first | exact ⟨rfl⟩ | (constructor; simp; done)
    · (try simp only [go_sem, icast, bvD, ft0]) <;> first | exact ⟨rfl⟩ | (constructor; simp; done)
    all_goals (first | omega | rfl | (simp; done) | (simp; omega) | assumption)
  · rintro _ _ _ ⟨k, w, rfl, ⟨rfl⟩, ⟨rfl⟩, h1⟩
    simp only [go_sem]
    refine AWp.seq fun K5 hK5 => ?_
    refine AWp.rs fun K6 hK6 => ?_
    try simp only [go_sem]
    refine hK6 _ _ ?_
    try clear hK6 K6
    refine AWp.cond _ rfl (fun hc0 => ?_) (fun hc0 => ?_)
    · skip
      try simp only [decide_eq_true_eq] at hc0
      have hlt : k < l.length := by omega
      have hki : (k : Int) < (l.length : Int) := by omega
      refine AWp.skip ?_
      refine thenQ_n ?_
      refine hK5 _ _ ?_
      try clear hK5 K5
      refine AWp.mask [true, true, true] rfl ?_
      simp only [go_sem]
      refine AWp.seq fun K7 hK7 => ?_
      refine AWp.block ?_
      refine AWp.rs fun K8 hK8 => ?_
      try simp only [go_sem, bvD, bvsD_get l k _ hlt, hki]
      refine DW.pcr rfl rfl rfl rfl (batch_c T _ _ (hz _ (List.getElem_mem hlt))) rfl rfl ?_
      try simp only [go_sem]
      intro b5
      first | intro fb5 | have fb5 := True.intro
      try simp only [freshL] at fb5
      refine hK8 _ _ ?_
      try clear hK8 K8
      refine AWp.mask [true, true, true, true] rfl ?_
      simp only [go_sem]
      refine AWp.rk fun K9 hK9 => ?_
      try simp only [go_sem]
      refine DW.app rfl rfl rfl rfl (show slI Tryd.prog 44 = some (37, 2, 32) by simp only [go_sem]) rfl rfl (by simp only [go_sem]) (by first | exact .inl rfl | exact .inr rfl) (by (try simp only [go_sem, bvsD_len, List.length_take, List.length_cons, List.length_nil]); omega) (by (try simp only [go_sem, bvsD_len, List.length_take, List.length_cons, List.length_nil]); omega) fun t1 ft1 => ?_
      try simp only [freshT] at ft1
      try simp only [go_sem]
      refine hK9 _ _ ?_
      try clear hK9 K9
      refine blkQ_n (thenQ_n ?_)
      refine hK7 _ _ ?_
      try clear hK7 K7
      refine AWp.mask [true, true, true] rfl ?_
      simp only [go_sem]
      refine AWp.rk fun K10 hK10 => ?_
      try simp only [go_sem, icast]
      (repeat (with_reducible refine And.intro ?_ ?_; omega))
      refine hK10 _ _ ?_
      try clear hK10 K10
      refine thenQ_n ?_
      refine EndS.mk [true] [false, true, true] [b5] [] [] [t1] rfl ?_ ?_
      · (try simp only [go_sem]) <;> try rfl
      refine .e ⟨_, ?_, k + 1, t1, rfl, ?_, ?_, ?_⟩
      · first | omega | (simp; omega) | (grind)
      · (try simp only [go_sem]) <;> first | exact ⟨rfl⟩ | (constructor; rw [← bvsD_snoc hlt])
      · (try simp only [go_sem]) <;> first | exact ⟨rfl⟩ | (constructor; simp; done)
      all_goals (first | omega | assumption | grind)
    · skip
      try simp only [decide_eq_false_iff_not, Int.not_lt] at hc0
      refine AWp.exit ?_
      refine thenQ_e (thenQ_e (blkQ_e (thenQ_n ?_)))
      refine hK3 _ _ ?_
      try clear hK3 K3
      refine AWp.mask [false, true] rfl ?_
      simp only [go_sem]
      refine AWp.rs fun K11 hK11 => ?_
      try simp only [go_sem]
      refine hK11 _ _ ?_
      try clear hK11 K11
      refine AWp.ret ?_
      try simp only [go_sem]
      rw [List.take_of_length_le (by omega)]; try simp [LeA, LeL, LeD]
set_option maxRecDepth 4000 in
set_option maxHeartbeats 1000000 in
theorem sameBats_c (T : Tbl) (l : List (Int × List Ent)) (hl : l.length ≤ 10000000000000) (he : ∀ p ∈ l, p.2.length ≤ 10000000000000) : PC Tryd.prog T 26 [.d (.slc 2 (bvsD l)), .d (.slc 2 (bvsD l))] (.d (.bool true)) := by
  refine ⟨Tryd.call26, PCall.enterS Tryd.func26 rfl Tryd.ntmps26 rfl fun hb => ?_⟩
  simp only [go_sem, Tryd.results26]
  refine AWp.rs fun K1 hK1 => ?_
  try simp only [go_sem]
  refine hK1 _ _ ?_
  try clear hK1 K1
  refine AWp.seq fun K2 hK2 => ?_
  refine AWp.rs fun K3 hK3 => ?_
  try simp only [go_sem]
  refine hK3 _ _ ?_
  try clear hK3 K3
  refine AWp.mask [true, true, false, false, false, false, false, true] rfl ?_
  simp only [go_sem]
  refine AWp.cond _ rfl (fun hc0 => ?_) (fun hc0 => ?_)
  · skip
    exact absurd hc0 (by simp)
  · skip
    try simp only [decide_eq_true_eq, Bool.not_eq_false'] at hc0
    refine AWp.skip ?_
    refine thenQ_n ?_
    refine hK2 _ _ ?_
    try clear hK2 K2
    refine AWp.seq fun K4 hK4 => ?_
    refine AWp.rs fun K5 hK5 => ?_
    try simp only [go_sem]
    refine hK5 _ _ ?_
    try clear hK5 K5
    refine AWp.block ?_
    refine AWp.mask [true, true, true] rfl ?_
    simp only [go_sem]
    refine AWp.loopS [true, true] [false, false, true] (fun n lc hc => ∃ (k : Nat), n = l.length - k ∧ EqS lc [(5, .d (.int .i64 k))] ∧ EqS hc (⟨[], []⟩) ∧ (k ≤ l.length)) rfl ?_ ?_
    · refine ⟨_, 0, rfl, ?_, ?_, ?_⟩
      · (try simp only [go_sem]) <;> first | exact ⟨rfl⟩ | (constructor; simp; done)
      · (try simp only [go_sem, icast, bvD]) <;> first | exact ⟨rfl⟩ | (constructor; simp; done)
      all_goals (first | omega | rfl | (simp; done) | (simp; omega) | assumption)
    · rintro _ _ _ ⟨k, rfl, ⟨rfl⟩, ⟨rfl⟩, h1⟩
      simp only [go_sem]
      refine AWp.seq fun K6 hK6 => ?_
      refine AWp.rs fun K7 hK7 => ?_
      try simp only [go_sem]
      refine hK7 _ _ ?_
      try clear hK7 K7
      refine AWp.cond _ rfl (fun hc1 => ?_) (fun hc1 => ?_)
      · skip
        try simp only [decide_eq_true_eq] at hc1
        have hlt : k < l.length := by omega
        have hle := he _ (List.getElem_mem hlt)
        have hki : (k : Int) < (l.length : Int) := by omega
        refine AWp.skip ?_
        refine thenQ_n ?_
        refine hK6 _ _ ?_
        try clear hK6 K6
        refine AWp.mask [true, true, true] rfl ?_
        simp only [go_sem]
        refine AWp.seq fun K8 hK8 => ?_
        refine AWp.block ?_
        refine AWp.ds true [0, 1, 2, 3, 4, 5, 6, 7, 8, 9] rfl (by kernel_rfl) fun K9 hK9 => ?_
        try simp only [go_sem, bvD, bvsD_get l k _ hlt, hki]
        refine DW.pcr rfl rfl rfl rfl (sameBatch_c T _ _ (by omega)) rfl rfl ?_
        try simp only [go_sem]
        refine hK9 _ _ ?_
        try clear hK9 K9
        refine AWp.mask [true, true, true, false, false, false, false, false, false, false, false, false, true] rfl ?_
        simp only [go_sem]
        refine AWp.cond _ rfl (fun hc2 => ?_) (fun hc2 => ?_)
        · skip
          exact absurd hc2 (by simp)
        · skip
          try simp only [Bool.not_eq_false'] at hc2
          refine AWp.skip ?_
          refine blkQ_n (thenQ_n ?_)
          refine hK8 _ _ ?_
          try clear hK8 K8
          refine AWp.rk fun K10 hK10 => ?_
          try simp only [go_sem, icast]
          (repeat (with_reducible refine And.intro ?_ ?_; omega))
          refine hK10 _ _ ?_
          try clear hK10 K10
          refine thenQ_n ?_
          refine EndS.mkr [true, true] [false, false, true] rfl ?_ ?_
          · (try simp only [go_sem]) <;> try rfl
          refine .e ⟨_, ?_, k + 1, rfl, ?_, ?_, ?_⟩
          · first | omega | (simp; omega) | (grind)
          · (try simp only [go_sem]) <;> first | exact ⟨rfl⟩ | (constructor; simp; done)
          · (try simp only [go_sem, icast, bvD, bvsD_get l k _ hlt, hki]) <;> first | exact ⟨rfl⟩ | (constructor; simp; done)
          all_goals (first | omega | assumption | grind)
      · skip
        try simp only [decide_eq_false_iff_not, Int.not_lt] at hc1
        refine AWp.exit ?_
        refine thenQ_e (thenQ_e (blkQ_e (thenQ_n ?_)))
        refine hK4 _ _ ?_
        try clear hK4 K4
        refine AWp.mask [] rfl ?_
        simp only [go_sem]
        refine AWp.rs fun K11 hK11 => ?_
        try simp only [go_sem]
        refine hK11 _ _ ?_
        try clear hK11 K11
        refine AWp.ret ?_
        try simp only [go_sem]
        try simp [LeA, LeL, LeD]
set_option maxRecDepth 4000 in
set_option maxHeartbeats 1000000 in
theorem bookFolds_c (T : Tbl) (hL : LibT T) (l : List (Int × List Ent)) (u : Int) (okl : ∀ p ∈ l, ∀ x ∈ p.2, EntOk x) (hl : l.length * 32 ≤ 140737488355328) (hz : ∀ p ∈ l, p.2.length * 72 ≤ 140737488355328) : PC Tryd.prog T 8 [.d (.slc 2 (bvsD l)), .d (.int .i64 u)] (.d (.bool true)) := by
  refine ⟨Tryd.call8, PCall.enterS Tryd.func8 rfl Tryd.ntmps8 rfl fun hb => ?_⟩
  simp only [go_sem, Tryd.results8]
  refine AWp.rs fun K1 hK1 => ?_
  try simp only [go_sem]
  refine hK1 _ _ ?_
  try clear hK1 K1
  refine AWp.rs fun K2 hK2 => ?_
  try simp only [go_sem]
  refine DW.pcr rfl rfl rfl rfl (batches_c T l hl hz) rfl rfl ?_
  try simp only [go_sem]
  refine hK2 _ _ ?_
  try clear hK2 K2
  refine AWp.rs fun K3 hK3 => ?_
  try simp only [go_sem]
  refine DW.pcr rfl rfl rfl rfl (Fold_c T hL l u okl hl) rfl rfl ?_
  try simp only [go_sem]
  intro b4
  first | intro fb4 | have fb4 := True.intro
  try simp only [freshL] at fb4
  refine hK3 _ _ ?_
  try clear hK3 K3
  refine AWp.mask [true, true, false, true, true, true] rfl ?_
  simp only [go_sem]
  refine AWp.rs fun K5 hK5 => ?_
  try simp only [go_sem]
  refine DW.pcr rfl rfl rfl rfl (BatchesFolded_c T hL l u okl hl) rfl rfl ?_
  try simp only [go_sem]
  intro b6
  first | intro fb6 | have fb6 := True.intro
  try simp only [freshL] at fb6
  refine hK5 _ _ ?_
  try clear hK5 K5
  refine AWp.mask [true, false, true, true, true, true, true] rfl ?_
  simp only [go_sem]
  refine AWp.rs fun K7 hK7 => ?_
  try simp only [go_sem, decide_true, fb6]
  refine DW.pcgr rfl rfl rfl rfl rfl (fun hg => (sameState_c T (foldV l u).1 (Nat.le_trans (fv_I l u).bx (by decide)) (fun y hy => Nat.le_trans ((fv_I l u).al y hy).1 (by decide)) (Nat.le_trans (fv_I l u).sp (by decide)))) (fun hg => by (try simp only [go_sem]) <;> first | exact hg | (exfalso; simp at hg; done) | (simpa using hg) | grind) rfl rfl ?_
  try simp only [go_sem]
  refine DW.pcgr rfl rfl rfl rfl rfl (fun hg => sameBats_c T l (by omega) (fun p hp => by have := hz p hp; omega)) (fun hg => by (try simp only [go_sem]) <;> first | exact hg | (exfalso; simp at hg; done) | (simpa using hg) | grind) rfl rfl ?_
  try simp only [go_sem]
  refine hK7 _ _ ?_
  try clear hK7 K7
  refine AWp.mask [false, true] rfl ?_
  simp only [go_sem]
  refine AWp.ret ?_
  try simp only [go_sem]
  try simp [LeA, LeD]
end Go.Proofs.YthhfbolhlbgbgaaDoor

namespace Go.Proofs.YthhfbolhlbgbgaaDoor
open Go.RowKit
set_option linter.unusedSimpArgs false
set_option linter.unusedVariables false
open Go.ChangeShapes Go.WideShapes Go.ChangeAt
set_option maxRecDepth 20000
section
variable {H : Type} {enc : TypeId × Value → H} {W : World}
def RBt (p : Int × List Ent) (d : DataW H) : Prop := ∃ ds z, d = .agg ds ∧ ds[1]? = some z ∧ RL (fun _ _ => True) p.2 z
theorem dec_bats (f : Nat) : DecR enc Tryd.prog W (fun l : List (Int × List Ent) => [.slc 2 (l.map bvD)]) (RL RBt) 44 f := by
  cases f with
  | zero => exact DecR.zero
  | succ f => exact DecR.slc (dec_bat f) Tryd.underlying44 (by kernel_rfl) (fun _ => rfl) (by decide)
theorem bats_ok {F : Frz} {l : List (Int × List Ent)} {v : Value} (h : VD F (.slc 2 (bvsD l)) v) : ∀ p ∈ l, ∀ x ∈ p.2, EntOk x := fun p hp x hx => by
  obtain ⟨_, _, h3⟩ := h.bnd.slc_inv
  have hm : bvD p ∈ bvsD l := List.mem_map.2 ⟨p, hp, rfl⟩
  obtain ⟨_, _, h4⟩ := (h3 _ hm (.slc 6 (entsD p.2)) (by simp [bvD])).slc_inv
  have hm2 : entD x ∈ entsD p.2 := List.mem_map.2 ⟨x, hx, rfl⟩
  have hb : maxLen ≤ 9223372036854775807 := by decide
  exact ⟨Nat.le_trans (h4 _ hm2 (.str x.box) (by simp [entD])).str_inv hb, Nat.le_trans (h4 _ hm2 (.str x.dest) (by simp [entD])).str_inv hb, Nat.le_trans (h4 _ hm2 (.str x.text) (by simp [entD])).str_inv hb⟩
theorem bats_sm {l : List (Int × List Ent)} {d : DataW H} (h : RL RBt l d) (s0 : Small Tryd.prog 44 d) : l.length * 32 ≤ 140737488355328 ∧ ∀ p ∈ l, p.2.length * 72 ≤ 140737488355328 := by
  refine ⟨rl_len (n := 32) h Tryd.underlying44 s0 (by kernel_rfl), fun p hp => ?_⟩
  obtain ⟨elems, spare, y, rfl, hy, ds2, z, rfl, hz, hr⟩ := rl_mem h hp
  have p3 := Small.elem Tryd.underlying44 s0 hy
  exact rl_len (n := 72) hr Tryd.underlying23 (Small.part Tryd.underlying37 p3 (j := 1) rfl hz) (by kernel_rfl)
end
end Go.Proofs.YthhfbolhlbgbgaaDoor

namespace Go.Proofs.YthhfbolhlbgbgaaDoor
open Go.RowKit Go.ChangeShapes Go.WideShapes Go.ChangeAt
set_option linter.unusedSimpArgs false
set_option linter.unusedVariables false
open Go.ChangeShapes Go.WideShapes Go.ChangeAt
set_option maxRecDepth 20000
theorem bookFolds_run {H : Type} {enc : TypeId × Value → H} (W : World) (base : Nat) (v0 v1 : Value) (d0 : DataW H) (p0 : List MemPlace) (d1 : DataW H) (p1 : List MemPlace)
    (k0 : Value.okWide Tryd.prog W .any base 44 v0) (h0 : DataW.Trod enc Tryd.prog W 0 (fun _ => true) true 44 v0 d0 p0) (k1 : Value.okWide Tryd.prog W .any base 3 v1) (h1 : DataW.Trod enc Tryd.prog W 0 (fun _ => true) true 3 v1 d1 p1) (s0 : Small Tryd.prog 44 d0) (s1 : Small Tryd.prog 3 d1)
    (hL : laidMetH Tryd.prog Rows.bookFoldsRow.laid W) (hsh : W.ShapedOpen Tryd.prog) :
    Calls Tryd.prog 8 #[v0, v1] W fun e W' => e = .returned (.bool true) ∧ Below W.heap.size W W' := by
  obtain ⟨a1, n1, c1, rfl⟩ := okWide_slice Tryd.underlying44 k0
  obtain ⟨l, hx, hr⟩ := DecR.open_ dec_bats h0
  obtain ⟨w, ew, hw⟩ := hx.2 0 _ rfl
  have ew : some (Value.slice a1 n1 c1) = some w := ew
  injection ew with ew
  subst ew
  obtain ⟨hl, hz⟩ := bats_sm hr s0
  obtain ⟨u, rfl, rfl, rfl, hu⟩ := open_int Tryd.underlying3 k1 h1
  obtain ⟨_, m, hm⟩ := Lib0.open_ hsh
  refine law_calls (T := libT m) (bookFolds_c (libT m) (libT_lib m) l u (bats_ok hw) hl hz) (libT_ok hm) ⟨rfl, fun i a ha => ?_⟩
  match i, ha with
  | 0, ha =>
    simp at ha
    subst ha
    exact ⟨_, rfl, .d hw⟩
  | 1, ha =>
    simp at ha
    subst ha
    exact ⟨_, rfl, .d (.int _ _)⟩
  | i + 2, ha => simp at ha
end Go.Proofs.YthhfbolhlbgbgaaDoor

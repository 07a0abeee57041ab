/- Texts that the laws rest on, packed. -/
import Derived.Test.YthhfbolhlbgbgaaDoorGY
namespace Go.Proofs.YthhfbolhlbgbgaaDoor
set_option linter.unusedSimpArgs false
set_option linter.unusedVariables false
structure EntOk (x : Ent) : Prop where
  box : x.box.length ≤ 9223372036854775807
  dest : x.dest.length ≤ 9223372036854775807
  text : x.text.length ≤ 9223372036854775807
theorem Form_e (T : Tbl) (hL : LibT T) {x : Ent} (ok : EntOk x) : PC Tryd.prog T 67 [.agg (entA x)] (.d (.int .i64 (entE x))) := Form_c T hL x ok.box ok.dest ok.text
theorem EntryFault_e (T : Tbl) (hL : LibT T) {x : Ent} (ok : EntOk x) : PC Tryd.prog T 57 [.agg (entA x)] (.d (.int .i64 (entE x))) := EntryFault_c T hL x ok.box ok.dest ok.text
def entsD (l : List Ent) : List (List D) := l.map entD
@[go_sem] theorem entsD_len (l : List Ent) : (entsD l).length = l.length := by simp [entsD]
theorem entsD_get (l : List Ent) (i : Nat) (d : List D) (h : i < l.length) : (entsD l).getD i d = entD (l[i]'h) := map_getD entD _ _ _ h
/-- the first entry that is wrong -/
def firstE : List Ent → Int
  | [] => 0
  | x :: l => if entE x ≠ 0 then entE x else firstE l
theorem first_t {l : List Ent} {k : Nat} (h : k < l.length) (he : entE (l[k]'h) ≠ 0) : firstE (l.drop k) = entE (l[k]'h) := by rw [List.drop_eq_getElem_cons h, firstE, if_pos he]
theorem first_f {l : List Ent} {k : Nat} (h : k < l.length) (he : entE (l[k]'h) = 0) : firstE (l.drop k) = firstE (l.drop (k + 1)) := by rw [List.drop_eq_getElem_cons h, firstE, if_neg (by simp [he])]
theorem first_end {l : List Ent} {k : Nat} (h : l.length ≤ k) : firstE (l.drop k) = 0 := by rw [List.drop_eq_nil_of_le h]; rfl
def batE (u : Int) (l : List Ent) : Int := if u < 0 ∨ 2 < u then 6 else if l.length < 1 ∨ 10 < l.length then 1 else firstE l
theorem batE_6 {u : Int} {l : List Ent} (h : u < 0 ∨ 2 < u) : batE u l = 6 := if_pos h
theorem batE_1 {u : Int} {l : List Ent} (h : ¬ (u < 0 ∨ 2 < u)) (h2 : l.length < 1 ∨ 10 < l.length) : batE u l = 1 := by unfold batE; rw [if_neg h, if_pos h2]
theorem batE_t {u : Int} {l : List Ent} (h : ¬ (u < 0 ∨ 2 < u)) (h2 : ¬ (l.length < 1 ∨ 10 < l.length)) : batE u l = firstE l := by unfold batE; rw [if_neg h, if_neg h2]
set_option maxRecDepth 4000 in
set_option maxHeartbeats 1000000 in
theorem Check_c (T : Tbl) (hL : LibT T) (u : Int) (l : List Ent) (ok : ∀ x ∈ l, EntOk x) : PC Tryd.prog T 71 [.agg [.d (.int .i64 u), .d (.slc 6 (entsD l))]] (.d (.int .i64 (batE u l))) := by
  refine ⟨Tryd.call71, PCall.enterS Tryd.func71 rfl Tryd.ntmps71 rfl fun hb => ?_⟩
  simp only [go_sem, Tryd.results71]
  refine AWp.rs fun K1 hK1 => ?_
  try simp only [go_sem]
  intro b1
  first | intro fb1 | have fb1 := True.intro
  try simp only [freshL] at fb1
  refine hK1 _ _ ?_
  try clear hK1 K1
  refine AWp.seq fun K2 hK2 => ?_
  refine AWp.rs fun K3 hK3 => ?_
  try simp only [go_sem]
  (repeat (with_reducible refine And.intro ?_ ?_; (exact nfB)))
  refine hK3 _ _ ?_
  try clear hK3 K3
  refine AWp.mask [false, true, false, false, false, false, false, false, false, false, true] rfl ?_
  simp only [go_sem]
  refine AWp.cond _ rfl (fun hc0 => ?_) (fun hc0 => ?_)
  · skip
    try simp only [decide_eq_true_eq, Bool.or_eq_true] at hc0
    refine AWp.rs fun K4 hK4 => ?_
    try simp only [go_sem]
    refine hK4 _ _ ?_
    try clear hK4 K4
    refine AWp.ret ?_
    try simp only [go_sem]
    rw [batE_6 (by omega)]
  · skip
    try simp only [decide_eq_false_iff_not, Bool.or_eq_false_iff, Int.not_lt, Int.not_le] at hc0
    refine AWp.skip ?_
    refine thenQ_n ?_
    refine hK2 _ _ ?_
    try clear hK2 K2
    refine AWp.seq fun K5 hK5 => ?_
    refine AWp.rs fun K6 hK6 => ?_
    try simp only [go_sem]
    (repeat (with_reducible refine And.intro ?_ ?_; (exact nfB)))
    refine hK6 _ _ ?_
    try clear hK6 K6
    refine AWp.mask [true, false, false, false, false, false, false, false, false, false, false, true] rfl ?_
    simp only [go_sem]
    refine AWp.cond _ rfl (fun hc1 => ?_) (fun hc1 => ?_)
    · skip
      try simp only [decide_eq_true_eq, Bool.or_eq_true] at hc1
      refine AWp.rs fun K7 hK7 => ?_
      try simp only [go_sem]
      refine hK7 _ _ ?_
      try clear hK7 K7
      refine AWp.ret ?_
      try simp only [go_sem]
      rw [batE_1 (by omega) (by omega)]
    · skip
      try simp only [decide_eq_false_iff_not, Bool.or_eq_false_iff, Int.not_lt] at hc1
      refine AWp.skip ?_
      refine thenQ_n ?_
      refine hK5 _ _ ?_
      try clear hK5 K5
      refine AWp.seq fun K8 hK8 => ?_
      refine AWp.rs fun K9 hK9 => ?_
      try simp only [go_sem]
      refine hK9 _ _ ?_
      try clear hK9 K9
      refine AWp.block ?_
      refine AWp.mask [false, false, false, true, true, true] rfl ?_
      simp only [go_sem]
      refine AWp.loopS [true, true] [false, false, true] (fun n lc hc => ∃ (k : Nat), n = l.length - k ∧ EqS lc [(27, .d (.int .i64 k))] ∧ EqS hc (⟨[(b1, ⟨2, 1, [[.d (.int .i64 u), .d (.slc 6 (entsD l))]]⟩)], []⟩) ∧ (k ≤ l.length) ∧ (firstE (l.drop k) = firstE l)) rfl ?_ ?_
      · refine ⟨_, 0, rfl, ?_, ?_, ?_, ?_⟩
        · (try simp only [go_sem]) <;> first | exact ⟨rfl⟩ | (constructor; simp; done)
        · (try simp only [go_sem, icast, entD, fb1]) <;> first | exact ⟨rfl⟩ | (constructor; simp; done)
        all_goals (first | omega | rfl)
      · rintro _ _ _ ⟨k, rfl, ⟨rfl⟩, ⟨rfl⟩, h1, h2⟩
        simp only [go_sem]
        refine AWp.rs fun K10 hK10 => ?_
        try simp only [go_sem]
        refine hK10 _ _ ?_
        try clear hK10 K10
        refine AWp.seq fun K11 hK11 => ?_
        refine AWp.cond _ rfl (fun hc2 => ?_) (fun hc2 => ?_)
        · skip
          try simp only [decide_eq_true_eq] at hc2
          have hlt : k < l.length := by omega
          refine AWp.skip ?_
          refine thenQ_n ?_
          refine hK11 _ _ ?_
          try clear hK11 K11
          refine AWp.seq fun K12 hK12 => ?_
          refine AWp.block ?_
          refine AWp.rs fun K13 hK13 => ?_
          try simp only [go_sem, entD, entsD_get l k _ hlt]
          (repeat (with_reducible refine And.intro ?_ ?_; omega))
          intro b4
          first | intro fb4 | have fb4 := True.intro
          try simp only [freshL] at fb4
          refine hK13 _ _ ?_
          try clear hK13 K13
          refine AWp.rs fun K14 hK14 => ?_
          try simp only [go_sem, fb4]
          refine DW.pcr rfl rfl rfl rfl (Form_e T hL (ok _ (List.getElem_mem hlt))) rfl rfl ?_
          try simp only [go_sem]
          refine hK14 _ _ ?_
          try clear hK14 K14
          refine AWp.mask [false, true, true, true, true] rfl ?_
          simp only [go_sem]
          refine AWp.rs fun K15 hK15 => ?_
          try simp only [go_sem]
          refine hK15 _ _ ?_
          try clear hK15 K15
          refine AWp.cond _ rfl (fun hc3 => ?_) (fun hc3 => ?_)
          · skip
            try simp only [decide_eq_false_iff_not, Bool.not_eq_true'] at hc3
            refine AWp.rs fun K16 hK16 => ?_
            try simp only [go_sem]
            refine hK16 _ _ ?_
            try clear hK16 K16
            refine AWp.mask [true] rfl ?_
            simp only [go_sem]
            refine AWp.ret ?_
            try simp only [go_sem]
            rw [batE_t (by omega) (by omega), ← h2, first_t hlt hc3]
          · skip
            try simp only [decide_eq_true_eq, Bool.not_eq_false'] at hc3
            refine AWp.skip ?_
            refine blkQ_n (thenQ_n ?_)
            refine hK12 _ _ ?_
            try clear hK12 K12
            refine AWp.rk fun K17 hK17 => ?_
            try simp only [go_sem, icast]
            (repeat (with_reducible refine And.intro ?_ ?_; omega))
            refine hK17 _ _ ?_
            try clear hK17 K17
            refine thenQ_n ?_
            refine EndS.mk [false, true, true] [false, false, false, true] [b4] [] [b1] [] rfl ?_ ?_
            · (try simp only [go_sem]) <;> try rfl
            refine .e ⟨_, ?_, k + 1, rfl, ?_, ?_, ?_, ?_⟩
            · first | omega | (simp; omega) | (grind)
            · (try simp only [go_sem]) <;> first | exact ⟨rfl⟩ | (constructor; simp; done)
            · (try simp only [go_sem, fb4]) <;> first | exact ⟨rfl⟩ | (constructor; simp; done)
            · omega
            · rw [← first_f hlt hc3]; exact h2
        · skip
          try simp only [decide_eq_false_iff_not, Int.not_lt] at hc2
          refine AWp.exit ?_
          refine thenQ_e (thenQ_e (blkQ_e (thenQ_n ?_)))
          refine hK8 _ _ ?_
          try clear hK8 K8
          refine AWp.mask [] rfl ?_
          simp only [go_sem]
          refine AWp.rs fun K18 hK18 => ?_
          try simp only [go_sem]
          refine hK18 _ _ ?_
          try clear hK18 K18
          refine AWp.ret ?_
          try simp only [go_sem]
          rw [batE_t (by omega) (by omega), ← h2, first_end (by omega)]
set_option maxRecDepth 4000 in
set_option maxHeartbeats 1000000 in
theorem BatchFault_c (T : Tbl) (hL : LibT T) (u : Int) (l : List Ent) (ok : ∀ x ∈ l, EntOk x) : PC Tryd.prog T 72 [.agg [.d (.int .i64 u), .d (.slc 6 (entsD l))]] (.d (.int .i64 (batE u l))) := by
  refine ⟨Tryd.call72, PCall.enterS Tryd.func72 rfl Tryd.ntmps72 rfl fun hb => ?_⟩
  simp only [go_sem, Tryd.results72]
  refine AWp.rs fun K1 hK1 => ?_
  try simp only [go_sem]
  intro b1
  first | intro fb1 | have fb1 := True.intro
  try simp only [freshL] at fb1
  refine hK1 _ _ ?_
  try clear hK1 K1
  refine AWp.seq fun K2 hK2 => ?_
  refine AWp.rs fun K3 hK3 => ?_
  try simp only [go_sem]
  refine DW.pcr rfl rfl rfl rfl (In_c T _ _ _) rfl rfl ?_
  try simp only [go_sem]
  refine hK3 _ _ ?_
  try clear hK3 K3
  refine AWp.mask [false, true, false, false, false, false, true] rfl ?_
  simp only [go_sem]
  refine AWp.cond _ rfl (fun hc0 => ?_) (fun hc0 => ?_)
  · skip
    try simp only [decide_eq_false_iff_not, Bool.not_eq_true', Bool.and_eq_false_iff, Int.not_le] at hc0
    refine AWp.rs fun K4 hK4 => ?_
    try simp only [go_sem]
    refine hK4 _ _ ?_
    try clear hK4 K4
    refine AWp.ret ?_
    try simp only [go_sem]
    rw [batE_6 (by omega)]
  · skip
    try simp only [decide_eq_true_eq, Bool.not_eq_false', Bool.and_eq_true] at hc0
    refine AWp.skip ?_
    refine thenQ_n ?_
    refine hK2 _ _ ?_
    try clear hK2 K2
    refine AWp.seq fun K5 hK5 => ?_
    refine AWp.rs fun K6 hK6 => ?_
    try simp only [go_sem]
    refine DW.pcr rfl rfl rfl rfl (In_c T _ _ _) rfl rfl ?_
    try simp only [go_sem]
    refine hK6 _ _ ?_
    try clear hK6 K6
    refine AWp.mask [true, false, false, false, false, false, true] rfl ?_
    simp only [go_sem]
    refine AWp.cond _ rfl (fun hc1 => ?_) (fun hc1 => ?_)
    · skip
      try simp only [decide_eq_false_iff_not, Bool.not_eq_true', Bool.and_eq_false_iff, Int.not_le] at hc1
      refine AWp.rs fun K7 hK7 => ?_
      try simp only [go_sem]
      refine hK7 _ _ ?_
      try clear hK7 K7
      refine AWp.ret ?_
      try simp only [go_sem]
      rw [batE_1 (by omega) (by omega)]
    · skip
      try simp only [decide_eq_true_eq, Bool.not_eq_false', Bool.and_eq_true] at hc1
      refine AWp.skip ?_
      refine thenQ_n ?_
      refine hK5 _ _ ?_
      try clear hK5 K5
      refine AWp.seq fun K8 hK8 => ?_
      refine AWp.rs fun K9 hK9 => ?_
      try simp only [go_sem]
      refine hK9 _ _ ?_
      try clear hK9 K9
      refine AWp.block ?_
      refine AWp.mask [true, true] rfl ?_
      simp only [go_sem]
      refine AWp.loopS [true] [false, true] (fun n lc hc => ∃ (k : Nat), n = l.length - k ∧ EqS lc [(3, .d (.int .i64 k))] ∧ EqS hc (⟨[(b1, ⟨2, 1, [[.d (.int .i64 u), .d (.slc 6 (entsD l))]]⟩)], []⟩) ∧ (k ≤ l.length) ∧ (firstE (l.drop k) = firstE l)) rfl ?_ ?_
      · refine ⟨_, 0, rfl, ?_, ?_, ?_, ?_⟩
        · (try simp only [go_sem]) <;> first | exact ⟨rfl⟩ | (constructor; simp; done)
        · (try simp only [go_sem, icast, entD, fb1]) <;> first | exact ⟨rfl⟩ | (constructor; simp; done)
        all_goals (first | omega | rfl)
      · rintro _ _ _ ⟨k, rfl, ⟨rfl⟩, ⟨rfl⟩, h1, h2⟩
        simp only [go_sem]
        refine AWp.seq fun K10 hK10 => ?_
        refine AWp.rs fun K11 hK11 => ?_
        try simp only [go_sem]
        refine hK11 _ _ ?_
        try clear hK11 K11
        refine AWp.mask [true, true, false, false, false, false, true] rfl ?_
        simp only [go_sem]
        refine AWp.cond _ rfl (fun hc2 => ?_) (fun hc2 => ?_)
        · skip
          try simp only [decide_eq_true_eq] at hc2
          have hlt : k < l.length := by omega
          refine AWp.skip ?_
          refine thenQ_n ?_
          refine hK10 _ _ ?_
          try clear hK10 K10
          refine AWp.seq fun K12 hK12 => ?_
          refine AWp.block ?_
          refine AWp.rs fun K13 hK13 => ?_
          try simp only [go_sem, entD, entsD_get l k _ hlt]
          (repeat (with_reducible refine And.intro ?_ ?_; omega))
          refine DW.pcr rfl rfl rfl rfl (EntryFault_e T hL (ok _ (List.getElem_mem hlt))) rfl rfl ?_
          try simp only [go_sem]
          refine hK13 _ _ ?_
          try clear hK13 K13
          refine AWp.mask [true, true, true] rfl ?_
          simp only [go_sem]
          refine AWp.rs fun K14 hK14 => ?_
          try simp only [go_sem]
          refine hK14 _ _ ?_
          try clear hK14 K14
          refine AWp.cond _ rfl (fun hc3 => ?_) (fun hc3 => ?_)
          · skip
            try simp only [decide_eq_false_iff_not, Bool.not_eq_true'] at hc3
            refine AWp.rs fun K15 hK15 => ?_
            try simp only [go_sem]
            refine hK15 _ _ ?_
            try clear hK15 K15
            refine AWp.mask [false, true] rfl ?_
            simp only [go_sem]
            refine AWp.ret ?_
            try simp only [go_sem]
            rw [batE_t (by omega) (by omega), ← h2, first_t hlt hc3]
          · skip
            try simp only [decide_eq_true_eq, Bool.not_eq_false'] at hc3
            refine AWp.skip ?_
            refine blkQ_n (thenQ_n ?_)
            refine hK12 _ _ ?_
            try clear hK12 K12
            refine AWp.rk fun K16 hK16 => ?_
            try simp only [go_sem, icast]
            (repeat (with_reducible refine And.intro ?_ ?_; omega))
            refine hK16 _ _ ?_
            try clear hK16 K16
            refine thenQ_n ?_
            refine EndS.mk [true] [false, true] [] [] [b1] [] rfl ?_ ?_
            · (try simp only [go_sem]) <;> try rfl
            refine .e ⟨_, ?_, k + 1, rfl, ?_, ?_, ?_, ?_⟩
            · first | omega | (simp; omega) | (grind)
            · (try simp only [go_sem]) <;> first | exact ⟨rfl⟩ | (constructor; simp; done)
            · (try simp only [go_sem]) <;> first | exact ⟨rfl⟩ | (constructor; simp; done)
            · omega
            · rw [← first_f hlt hc3]; exact h2
        · skip
          try simp only [decide_eq_false_iff_not, Int.not_lt] at hc2
          refine AWp.exit ?_
          refine thenQ_e (thenQ_e (blkQ_e (thenQ_n ?_)))
          refine hK8 _ _ ?_
          try clear hK8 K8
          refine AWp.rs fun K17 hK17 => ?_
          try simp only [go_sem]
          refine hK17 _ _ ?_
          try clear hK17 K17
          refine AWp.ret ?_
          try simp only [go_sem]
          rw [batE_t (by omega) (by omega), ← h2, first_end (by omega)]
set_option maxRecDepth 4000 in
set_option maxHeartbeats 1000000 in
theorem entries_c (T : Tbl) (l : List Ent) (hz : l.length * 72 ≤ 140737488355328) : PC Tryd.prog T 27 [.d (.slc 6 (entsD l))] (.d (.slc 6 (entsD l))) := by
  refine ⟨Tryd.call27, PCall.enterS Tryd.func27 rfl Tryd.ntmps27 rfl fun hb => ?_⟩
  simp only [go_sem, Tryd.results27]
  refine AWp.rs fun K1 hK1 => ?_
  try simp only [go_sem]
  refine hK1 _ _ ?_
  try clear hK1 K1
  refine AWp.rs fun K2 hK2 => ?_
  try simp only [go_sem]
  refine DW.appNil rfl rfl rfl rfl (show slI Tryd.prog 23 = some (56, 6, 72) by simp only [go_sem]) rfl rfl (by first | exact .inl rfl | exact .inr rfl) (by (try simp only [go_sem]); omega) (by (try simp only [go_sem]); omega) fun t1 ft1 => ?_
  try simp only [freshT] at ft1
  try simp only [go_sem]
  refine hK2 _ _ ?_
  try clear hK2 K2
  refine AWp.ret ?_
  try simp only [go_sem]
  try simp [LeA, LeD]
set_option maxRecDepth 4000 in
set_option maxHeartbeats 1000000 in
theorem batch_c (T : Tbl) (u : Int) (l : List Ent) (hz : l.length * 72 ≤ 140737488355328) : PC Tryd.prog T 21 [.agg [.d (.int .i64 u), .d (.slc 6 (entsD l))]] (.agg [.d (.int .i64 u), .d (.slc 6 (entsD l))]) := by
  refine ⟨Tryd.call21, PCall.enterS Tryd.func21 rfl Tryd.ntmps21 rfl fun hb => ?_⟩
  simp only [go_sem, Tryd.results21]
  refine AWp.rs fun K1 hK1 => ?_
  try simp only [go_sem]
  intro b1
  first | intro fb1 | have fb1 := True.intro
  try simp only [freshL] at fb1
  intro b2
  first | intro fb2 | have fb2 := True.intro
  try simp only [freshL] at fb2
  refine hK1 _ _ ?_
  try clear hK1 K1
  refine AWp.ds true [0, 1, 2, 3, 4, 5, 6] rfl (by kernel_rfl) fun K2 hK2 => ?_
  try simp only [go_sem, fb2]
  refine DW.pcr rfl rfl rfl rfl (entries_c T _ hz) rfl rfl ?_
  try simp only [go_sem, fb2]
  refine hK2 _ _ ?_
  try clear hK2 K2
  refine AWp.mask [false, false, true] rfl ?_
  simp only [go_sem]
  refine AWp.ret ?_
  try simp only [go_sem, fb2]
  try simp [LeA, LeL, LeD]
end Go.Proofs.YthhfbolhlbgbgaaDoor

namespace Go.Proofs.YthhfbolhlbgbgaaDoor
open Go.RowKit
set_option linter.unusedSimpArgs false
set_option linter.unusedVariables false
open Go.ChangeShapes Go.WideShapes Go.ChangeAt
set_option maxRecDepth 20000
section
variable {H : Type} {enc : TypeId × Value → H} {W : World}
theorem dec_ents (f : Nat) : DecR enc Tryd.prog W (fun l : List Ent => [.slc 6 (l.map entD)]) (RL fun _ _ => True) 23 f := by
  cases f with
  | zero => exact DecR.zero
  | succ f => exact DecR.slc (DecR.any (dec_ent f)) Tryd.underlying23 (by kernel_rfl) (fun _ => rfl) (by decide)
theorem dec_bat (f : Nat) : DecR enc Tryd.prog W (fun p : Int × List Ent => [.int .i64 p.1, .slc 6 (p.2.map entD)]) (fun p d => ∃ ds z, d = .agg ds ∧ ds[1]? = some z ∧ RL (fun _ _ => True) p.2 z) 37 f := by
  cases f with
  | zero => exact DecR.zero
  | succ f =>
    have hi : DecR enc Tryd.prog W (fun n : Int => [.int .i64 n]) (fun _ _ => True) 3 f := DecR.any (Dec.int Tryd.underlying3)
    exact (DecR.struct Tryd.underlying37 (by kernel_rfl) (.cons (k := 1) hi (by kernel_rfl) rfl (.cons (k := 1) (dec_ents f) (by kernel_rfl) rfl .nil))).map
        (fun (p : Int × (List Ent × Unit)) => (p.1, p.2.1)) (fun p => rfl) (fun p d h => by
          obtain ⟨ds, rfl, h⟩ := h
          match ds, h with
          | [], h => exact h.elim
          | [_], h => exact h.2.elim
          | x :: z :: ds, h => exact ⟨_, z, rfl, rfl, h.2.1⟩)
theorem rl_len {α : Type} {R : α → DataW H → Prop} {l : List α} {z : DataW H} {t e n : Nat} (h : RL R l z) (hu : Tryd.prog.underlying t = some (.slice e)) (hs : Small Tryd.prog t z) (hn : Tryd.prog.bytesOf e = n) : l.length * n ≤ 140737488355328 := by
  cases h with
  | nil => simp
  | slice _ elems spare hl _ =>
    have := Small.row hu hs
    rw [hn, Nat.add_mul, ← hl] at this
    omega
end
end Go.Proofs.YthhfbolhlbgbgaaDoor

/- Acts and entries as data; P13.1. -/
import Derived.Test.YtdofgjpgppaghaaRule
import Derived.Laws.StructEq
import Derived.Deep.RegionHeld3
namespace Go.Proofs.Ytdofgjpgppaghaa
open Go.RowKit
set_option linter.unusedSimpArgs false
set_option linter.unusedVariables false
structure Ent where
  kind : Int
  box : ByteArray
  uid : Int
  flags : Int
  to : ByteArray
  text : ByteArray
structure Act' where
  kind : Int
  conn : Int
  user : Int
  keep : Int
  data : ByteArray
  entry : Ent
def Act'.val (a : Act') : Value := .agg #[.int .i64 a.kind, .int .i64 a.conn, .int .i64 a.user, .int .i64 a.keep, .string a.data, .int .i64 a.entry.kind, .string a.entry.box, .int .i64 a.entry.uid, .int .i64 a.entry.flags, .string a.entry.to, .string a.entry.text]
/-- P13.1 -/
def actFault (a : Act') : Int :=
  if a.kind < 1 ∨ 5 < a.kind then 2
  else if a.kind = 1 then (if a.conn < 0 ∨ 2 < a.conn then 6 else if 3000 < a.data.size then 1 else if a.user = 0 ∧ a.keep = 0 ∧ a.entry.kind = 0 ∧ a.entry.box.toList = [] ∧ a.entry.uid = 0 ∧ a.entry.flags = 0 ∧ a.entry.to.toList = [] ∧ a.entry.text.toList = [] then 0 else 3)
  else if a.kind = 3 then (if a.keep < 0 ∨ 100000 < a.keep then 6 else if a.conn = 0 ∧ a.data.toList = [] ∧ a.user = 0 ∧ a.entry.kind = 0 ∧ a.entry.box.toList = [] ∧ a.entry.uid = 0 ∧ a.entry.flags = 0 ∧ a.entry.to.toList = [] ∧ a.entry.text.toList = [] then 0 else 3)
  else if a.kind = 5 then (if a.user < 0 ∨ 2 < a.user then 6 else if a.conn = 0 ∧ a.data.toList = [] ∧ a.keep = 0 then 0 else 3)
  else if a.conn = 0 ∧ a.data.toList = [] ∧ a.keep = 0 ∧ a.user = 0 ∧ a.entry.kind = 0 ∧ a.entry.box.toList = [] ∧ a.entry.uid = 0 ∧ a.entry.flags = 0 ∧ a.entry.to.toList = [] ∧ a.entry.text.toList = [] then 0 else 3

set_option maxRecDepth 20000 in
set_option maxHeartbeats 1000000 in
theorem Ck_lo (a : Act') (w : World) (hd : a.data.size ≤ maxLen) (hk : a.kind < 1) :
    Calls Try.prog 26 #[a.val] w fun e w' => e = .returned (.int .i64 (actFault a)) ∧ Below w.heap.size w w' := by
  have HF := Lib.hid (show actFault a = 2 by unfold actFault; rw [if_pos (by omega)])
  have hb := Below.refl w.heap.size w
  unfold maxLen at hd
  obtain ⟨kind, conn, user, keep, data, ⟨ek, eb, eu, ef, et, ex⟩⟩ := a
  dsimp only at *
  unfold Act'.val
  go_enter Try.func26, Try.ntmps26
  go_wp2_with fail
  go_ret
  refine ⟨ret_int HF.out.symm, ?_⟩
  (repeat (first | with_reducible exact hb | with_reducible refine Below.trans ?_ (Below.mono hb ?_) | with_reducible exact Below.refl _ _ | with_reducible refine Below.setCell ?_ ?_ _ | with_reducible refine Below.alloc ?_ ?_ _ | with_reducible refine Below.drew ?_ | with_reducible refine below_drewN ?_ _))
  all_goals (first | omega | (simp; done) | (simp; omega))

set_option maxRecDepth 20000 in
set_option maxHeartbeats 1000000 in
theorem Ck_hi (a : Act') (w : World) (hd : a.data.size ≤ maxLen) (hk : 5 < a.kind) :
    Calls Try.prog 26 #[a.val] w fun e w' => e = .returned (.int .i64 (actFault a)) ∧ Below w.heap.size w w' := by
  have HF := Lib.hid (show actFault a = 2 by unfold actFault; rw [if_pos (by omega)])
  have hb := Below.refl w.heap.size w
  unfold maxLen at hd
  obtain ⟨kind, conn, user, keep, data, ⟨ek, eb, eu, ef, et, ex⟩⟩ := a
  dsimp only at *
  unfold Act'.val
  go_enter Try.func26, Try.ntmps26
  go_wp2_with fail
  go_ret
  refine ⟨ret_int HF.out.symm, ?_⟩
  (repeat (first | with_reducible exact hb | with_reducible refine Below.trans ?_ (Below.mono hb ?_) | with_reducible exact Below.refl _ _ | with_reducible refine Below.setCell ?_ ?_ _ | with_reducible refine Below.alloc ?_ ?_ _ | with_reducible refine Below.drew ?_ | with_reducible refine below_drewN ?_ _))
  all_goals (first | omega | (simp; done) | (simp; omega))

set_option maxRecDepth 20000 in
set_option maxHeartbeats 1000000 in
theorem Ck_f1 (a : Act') (w : World) (hd : a.data.size ≤ maxLen) (hk : a.kind = 1) (h1 : a.conn < 0) :
    Calls Try.prog 26 #[a.val] w fun e w' => e = .returned (.int .i64 (actFault a)) ∧ Below w.heap.size w w' := by
  have HF := Lib.hid (show actFault a = 6 by unfold actFault; rw [if_neg (by omega), if_pos hk, if_pos (by omega)])
  have hb := Below.refl w.heap.size w
  unfold maxLen at hd
  obtain ⟨kind, conn, user, keep, data, ⟨ek, eb, eu, ef, et, ex⟩⟩ := a
  dsimp only at *
  unfold Act'.val
  subst hk
  go_enter Try.func26, Try.ntmps26
  go_wp2_with fail
  go_ret
  refine ⟨ret_int HF.out.symm, ?_⟩
  (repeat (first | with_reducible exact hb | with_reducible refine Below.trans ?_ (Below.mono hb ?_) | with_reducible exact Below.refl _ _ | with_reducible refine Below.setCell ?_ ?_ _ | with_reducible refine Below.alloc ?_ ?_ _ | with_reducible refine Below.drew ?_ | with_reducible refine below_drewN ?_ _))
  all_goals (first | omega | (simp; done) | (simp; omega))

set_option maxRecDepth 20000 in
set_option maxHeartbeats 1000000 in
theorem Ck_f2 (a : Act') (w : World) (hd : a.data.size ≤ maxLen) (hk : a.kind = 1) (h1 : 2 < a.conn) :
    Calls Try.prog 26 #[a.val] w fun e w' => e = .returned (.int .i64 (actFault a)) ∧ Below w.heap.size w w' := by
  have HF := Lib.hid (show actFault a = 6 by unfold actFault; rw [if_neg (by omega), if_pos hk, if_pos (by omega)])
  have hb := Below.refl w.heap.size w
  unfold maxLen at hd
  obtain ⟨kind, conn, user, keep, data, ⟨ek, eb, eu, ef, et, ex⟩⟩ := a
  dsimp only at *
  unfold Act'.val
  subst hk
  go_enter Try.func26, Try.ntmps26
  go_wp2_with fail
  go_ret
  refine ⟨ret_int HF.out.symm, ?_⟩
  (repeat (first | with_reducible exact hb | with_reducible refine Below.trans ?_ (Below.mono hb ?_) | with_reducible exact Below.refl _ _ | with_reducible refine Below.setCell ?_ ?_ _ | with_reducible refine Below.alloc ?_ ?_ _ | with_reducible refine Below.drew ?_ | with_reducible refine below_drewN ?_ _))
  all_goals (first | omega | (simp; done) | (simp; omega))

set_option maxRecDepth 20000 in
set_option maxHeartbeats 1000000 in
theorem Ck_f3 (a : Act') (w : World) (hd : a.data.size ≤ maxLen) (hk : a.kind = 1) (h1 : 0 ≤ a.conn) (h2 : a.conn ≤ 2) (h3 : 3000 < a.data.size) :
    Calls Try.prog 26 #[a.val] w fun e w' => e = .returned (.int .i64 (actFault a)) ∧ Below w.heap.size w w' := by
  have HF := Lib.hid (show actFault a = 1 by unfold actFault; rw [if_neg (by omega), if_pos hk, if_neg (by omega), if_pos (by omega)])
  have hb := Below.refl w.heap.size w
  unfold maxLen at hd
  obtain ⟨kind, conn, user, keep, data, ⟨ek, eb, eu, ef, et, ex⟩⟩ := a
  dsimp only at *
  unfold Act'.val
  subst hk
  go_enter Try.func26, Try.ntmps26
  go_wp2_with fail
  go_ret
  refine ⟨ret_int HF.out.symm, ?_⟩
  (repeat (first | with_reducible exact hb | with_reducible refine Below.trans ?_ (Below.mono hb ?_) | with_reducible exact Below.refl _ _ | with_reducible refine Below.setCell ?_ ?_ _ | with_reducible refine Below.alloc ?_ ?_ _ | with_reducible refine Below.drew ?_ | with_reducible refine below_drewN ?_ _))
  all_goals (first | omega | (simp; done) | (simp; omega))

set_option maxRecDepth 20000 in
set_option maxHeartbeats 1000000 in
theorem Ck_f4 (a : Act') (w : World) (hd : a.data.size ≤ maxLen) (hk : a.kind = 1) (h1 : 0 ≤ a.conn) (h2 : a.conn ≤ 2) (h3 : a.data.size ≤ 3000) :
    Calls Try.prog 26 #[a.val] w fun e w' => e = .returned (.int .i64 (actFault a)) ∧ Below w.heap.size w w' := by
  have HF := Lib.hid (show actFault a = if a.user = 0 ∧ a.keep = 0 ∧ a.entry.kind = 0 ∧ a.entry.box.toList = [] ∧ a.entry.uid = 0 ∧ a.entry.flags = 0 ∧ a.entry.to.toList = [] ∧ a.entry.text.toList = [] then 0 else 3 by unfold actFault; rw [if_neg (by omega), if_pos hk, if_neg (by omega), if_neg (by omega)])
  have hb := Below.refl w.heap.size w
  unfold maxLen at hd
  obtain ⟨kind, conn, user, keep, data, ⟨ek, eb, eu, ef, et, ex⟩⟩ := a
  dsimp only at *
  unfold Act'.val
  subst hk
  go_enter Try.func26, Try.ntmps26
  go_wp2_with fail
  go_region_held3 (fun w' => w'.cell? ⟨w.heap.size, 1, none⟩ = some (.int .i64 conn) ∧ w'.cell? ⟨w.heap.size, 4, none⟩ = some (.string data)) (((try dsimp only); (repeat' apply And.intro) <;> (go_keep; done))) (fail)
  go_wp2_with fail
  all_goals
    go_ret
    refine ⟨ret_int ?_, ?_⟩
    · rw [HF.out]
      first | exact (if_pos (by refine ⟨?_, ?_, ?_, ?_, ?_, ?_, ?_, ?_⟩ <;> assumption)).symm | exact (if_neg (by rintro ⟨g0, g1, g2, g3, g4, g5, g6, g7⟩; contradiction)).symm
    · (repeat (first | with_reducible exact hb | with_reducible refine Below.trans ?_ (Below.mono hb ?_) | with_reducible exact Below.refl _ _ | with_reducible refine Below.setCell ?_ ?_ _ | with_reducible refine Below.alloc ?_ ?_ _ | with_reducible refine Below.drew ?_ | with_reducible refine below_drewN ?_ _))
      all_goals (first | omega | (simp; done) | (simp; omega))

set_option maxRecDepth 20000 in
set_option maxHeartbeats 1000000 in
theorem Ck_c1 (a : Act') (w : World) (hd : a.data.size ≤ maxLen) (hk : a.kind = 3) (h1 : a.keep < 0) :
    Calls Try.prog 26 #[a.val] w fun e w' => e = .returned (.int .i64 (actFault a)) ∧ Below w.heap.size w w' := by
  have HF := Lib.hid (show actFault a = 6 by unfold actFault; rw [if_neg (by omega), if_neg (by omega), if_pos hk, if_pos (by omega)])
  have hb := Below.refl w.heap.size w
  unfold maxLen at hd
  obtain ⟨kind, conn, user, keep, data, ⟨ek, eb, eu, ef, et, ex⟩⟩ := a
  dsimp only at *
  unfold Act'.val
  subst hk
  go_enter Try.func26, Try.ntmps26
  go_wp2_with fail
  go_ret
  refine ⟨ret_int HF.out.symm, ?_⟩
  (repeat (first | with_reducible exact hb | with_reducible refine Below.trans ?_ (Below.mono hb ?_) | with_reducible exact Below.refl _ _ | with_reducible refine Below.setCell ?_ ?_ _ | with_reducible refine Below.alloc ?_ ?_ _ | with_reducible refine Below.drew ?_ | with_reducible refine below_drewN ?_ _))
  all_goals (first | omega | (simp; done) | (simp; omega))

set_option maxRecDepth 20000 in
set_option maxHeartbeats 1000000 in
theorem Ck_c2 (a : Act') (w : World) (hd : a.data.size ≤ maxLen) (hk : a.kind = 3) (h1 : 100000 < a.keep) :
    Calls Try.prog 26 #[a.val] w fun e w' => e = .returned (.int .i64 (actFault a)) ∧ Below w.heap.size w w' := by
  have HF := Lib.hid (show actFault a = 6 by unfold actFault; rw [if_neg (by omega), if_neg (by omega), if_pos hk, if_pos (by omega)])
  have hb := Below.refl w.heap.size w
  unfold maxLen at hd
  obtain ⟨kind, conn, user, keep, data, ⟨ek, eb, eu, ef, et, ex⟩⟩ := a
  dsimp only at *
  unfold Act'.val
  subst hk
  go_enter Try.func26, Try.ntmps26
  go_wp2_with fail
  go_ret
  refine ⟨ret_int HF.out.symm, ?_⟩
  (repeat (first | with_reducible exact hb | with_reducible refine Below.trans ?_ (Below.mono hb ?_) | with_reducible exact Below.refl _ _ | with_reducible refine Below.setCell ?_ ?_ _ | with_reducible refine Below.alloc ?_ ?_ _ | with_reducible refine Below.drew ?_ | with_reducible refine below_drewN ?_ _))
  all_goals (first | omega | (simp; done) | (simp; omega))

set_option maxRecDepth 20000 in
set_option maxHeartbeats 1000000 in
theorem Ck_c3 (a : Act') (w : World) (hd : a.data.size ≤ maxLen) (hk : a.kind = 3) (h1 : 0 ≤ a.keep) (h2 : a.keep ≤ 100000) :
    Calls Try.prog 26 #[a.val] w fun e w' => e = .returned (.int .i64 (actFault a)) ∧ Below w.heap.size w w' := by
  have HF := Lib.hid (show actFault a = if a.conn = 0 ∧ a.data.toList = [] ∧ a.user = 0 ∧ a.entry.kind = 0 ∧ a.entry.box.toList = [] ∧ a.entry.uid = 0 ∧ a.entry.flags = 0 ∧ a.entry.to.toList = [] ∧ a.entry.text.toList = [] then 0 else 3 by unfold actFault; rw [if_neg (by omega), if_neg (by omega), if_pos hk, if_neg (by omega)])
  have hb := Below.refl w.heap.size w
  unfold maxLen at hd
  obtain ⟨kind, conn, user, keep, data, ⟨ek, eb, eu, ef, et, ex⟩⟩ := a
  dsimp only at *
  unfold Act'.val
  subst hk
  go_enter Try.func26, Try.ntmps26
  go_wp2_with fail
  all_goals
    go_ret
    refine ⟨ret_int ?_, ?_⟩
    · rw [HF.out]
      first | exact (if_pos (by refine ⟨?_, ?_, ?_, ?_, ?_, ?_, ?_, ?_, ?_⟩ <;> assumption)).symm | exact (if_neg (by rintro ⟨g0, g1, g2, g3, g4, g5, g6, g7, g8⟩; contradiction)).symm
    · (repeat (first | with_reducible exact hb | with_reducible refine Below.trans ?_ (Below.mono hb ?_) | with_reducible exact Below.refl _ _ | with_reducible refine Below.setCell ?_ ?_ _ | with_reducible refine Below.alloc ?_ ?_ _ | with_reducible refine Below.drew ?_ | with_reducible refine below_drewN ?_ _))
      all_goals (first | omega | (simp; done) | (simp; omega))

set_option maxRecDepth 20000 in
set_option maxHeartbeats 1000000 in
theorem Ck_o1 (a : Act') (w : World) (hd : a.data.size ≤ maxLen) (hk : a.kind = 5) (h1 : a.user < 0) :
    Calls Try.prog 26 #[a.val] w fun e w' => e = .returned (.int .i64 (actFault a)) ∧ Below w.heap.size w w' := by
  have HF := Lib.hid (show actFault a = 6 by unfold actFault; rw [if_neg (by omega), if_neg (by omega), if_neg (by omega), if_pos hk, if_pos (by omega)])
  have hb := Below.refl w.heap.size w
  unfold maxLen at hd
  obtain ⟨kind, conn, user, keep, data, ⟨ek, eb, eu, ef, et, ex⟩⟩ := a
  dsimp only at *
  unfold Act'.val
  subst hk
  go_enter Try.func26, Try.ntmps26
  go_wp2_with fail
  go_ret
  refine ⟨ret_int HF.out.symm, ?_⟩
  (repeat (first | with_reducible exact hb | with_reducible refine Below.trans ?_ (Below.mono hb ?_) | with_reducible exact Below.refl _ _ | with_reducible refine Below.setCell ?_ ?_ _ | with_reducible refine Below.alloc ?_ ?_ _ | with_reducible refine Below.drew ?_ | with_reducible refine below_drewN ?_ _))
  all_goals (first | omega | (simp; done) | (simp; omega))

set_option maxRecDepth 20000 in
set_option maxHeartbeats 1000000 in
theorem Ck_o2 (a : Act') (w : World) (hd : a.data.size ≤ maxLen) (hk : a.kind = 5) (h1 : 2 < a.user) :
    Calls Try.prog 26 #[a.val] w fun e w' => e = .returned (.int .i64 (actFault a)) ∧ Below w.heap.size w w' := by
  have HF := Lib.hid (show actFault a = 6 by unfold actFault; rw [if_neg (by omega), if_neg (by omega), if_neg (by omega), if_pos hk, if_pos (by omega)])
  have hb := Below.refl w.heap.size w
  unfold maxLen at hd
  obtain ⟨kind, conn, user, keep, data, ⟨ek, eb, eu, ef, et, ex⟩⟩ := a
  dsimp only at *
  unfold Act'.val
  subst hk
  go_enter Try.func26, Try.ntmps26
  go_wp2_with fail
  go_ret
  refine ⟨ret_int HF.out.symm, ?_⟩
  (repeat (first | with_reducible exact hb | with_reducible refine Below.trans ?_ (Below.mono hb ?_) | with_reducible exact Below.refl _ _ | with_reducible refine Below.setCell ?_ ?_ _ | with_reducible refine Below.alloc ?_ ?_ _ | with_reducible refine Below.drew ?_ | with_reducible refine below_drewN ?_ _))
  all_goals (first | omega | (simp; done) | (simp; omega))

set_option maxRecDepth 20000 in
set_option maxHeartbeats 1000000 in
theorem Ck_o3 (a : Act') (w : World) (hd : a.data.size ≤ maxLen) (hk : a.kind = 5) (h1 : 0 ≤ a.user) (h2 : a.user ≤ 2) :
    Calls Try.prog 26 #[a.val] w fun e w' => e = .returned (.int .i64 (actFault a)) ∧ Below w.heap.size w w' := by
  have HF := Lib.hid (show actFault a = if a.conn = 0 ∧ a.data.toList = [] ∧ a.keep = 0 then 0 else 3 by unfold actFault; rw [if_neg (by omega), if_neg (by omega), if_neg (by omega), if_pos hk, if_neg (by omega)])
  have hb := Below.refl w.heap.size w
  unfold maxLen at hd
  obtain ⟨kind, conn, user, keep, data, ⟨ek, eb, eu, ef, et, ex⟩⟩ := a
  dsimp only at *
  unfold Act'.val
  subst hk
  go_enter Try.func26, Try.ntmps26
  go_wp2_with fail
  go_region_held3 (fun w' => w'.cell? ⟨w.heap.size, 2, none⟩ = some (.int .i64 user) ∧ w'.cell? ⟨w.heap.size, 5, none⟩ = some (.int .i64 ek) ∧ w'.cell? ⟨w.heap.size, 6, none⟩ = some (.string eb) ∧ w'.cell? ⟨w.heap.size, 7, none⟩ = some (.int .i64 eu) ∧ w'.cell? ⟨w.heap.size, 8, none⟩ = some (.int .i64 ef) ∧ w'.cell? ⟨w.heap.size, 9, none⟩ = some (.string et) ∧ w'.cell? ⟨w.heap.size, 10, none⟩ = some (.string ex)) (((try dsimp only); (repeat' apply And.intro) <;> (go_keep; done))) (fail)
  go_wp2_with fail
  all_goals
    go_ret
    refine ⟨ret_int ?_, ?_⟩
    · rw [HF.out]
      first | exact (if_pos (by refine ⟨?_, ?_, ?_⟩ <;> assumption)).symm | exact (if_neg (by rintro ⟨g0, g1, g2⟩; contradiction)).symm
    · (repeat (first | with_reducible exact hb | with_reducible refine Below.trans ?_ (Below.mono hb ?_) | with_reducible exact Below.refl _ _ | with_reducible refine Below.setCell ?_ ?_ _ | with_reducible refine Below.alloc ?_ ?_ _ | with_reducible refine Below.drew ?_ | with_reducible refine below_drewN ?_ _))
      all_goals (first | omega | (simp; done) | (simp; omega))

set_option maxRecDepth 20000 in
set_option maxHeartbeats 1000000 in
theorem Ck_x2 (a : Act') (w : World) (hd : a.data.size ≤ maxLen) (hk : a.kind = 2) :
    Calls Try.prog 26 #[a.val] w fun e w' => e = .returned (.int .i64 (actFault a)) ∧ Below w.heap.size w w' := by
  have HF := Lib.hid (show actFault a = if a.conn = 0 ∧ a.data.toList = [] ∧ a.keep = 0 ∧ a.user = 0 ∧ a.entry.kind = 0 ∧ a.entry.box.toList = [] ∧ a.entry.uid = 0 ∧ a.entry.flags = 0 ∧ a.entry.to.toList = [] ∧ a.entry.text.toList = [] then 0 else 3 by unfold actFault; rw [if_neg (by omega), if_neg (by omega), if_neg (by omega), if_neg (by omega)])
  have hb := Below.refl w.heap.size w
  unfold maxLen at hd
  obtain ⟨kind, conn, user, keep, data, ⟨ek, eb, eu, ef, et, ex⟩⟩ := a
  dsimp only at *
  unfold Act'.val
  subst hk
  go_enter Try.func26, Try.ntmps26
  go_wp2_with fail
  all_goals
    go_ret
    refine ⟨ret_int ?_, ?_⟩
    · rw [HF.out]
      first | exact (if_pos (by refine ⟨?_, ?_, ?_, ?_, ?_, ?_, ?_, ?_, ?_, ?_⟩ <;> assumption)).symm | exact (if_neg (by rintro ⟨g0, g1, g2, g3, g4, g5, g6, g7, g8, g9⟩; contradiction)).symm
    · (repeat (first | with_reducible exact hb | with_reducible refine Below.trans ?_ (Below.mono hb ?_) | with_reducible exact Below.refl _ _ | with_reducible refine Below.setCell ?_ ?_ _ | with_reducible refine Below.alloc ?_ ?_ _ | with_reducible refine Below.drew ?_ | with_reducible refine below_drewN ?_ _))
      all_goals (first | omega | (simp; done) | (simp; omega))

set_option maxRecDepth 20000 in
set_option maxHeartbeats 1000000 in
theorem Ck_x4 (a : Act') (w : World) (hd : a.data.size ≤ maxLen) (hk : a.kind = 4) :
    Calls Try.prog 26 #[a.val] w fun e w' => e = .returned (.int .i64 (actFault a)) ∧ Below w.heap.size w w' := by
  have HF := Lib.hid (show actFault a = if a.conn = 0 ∧ a.data.toList = [] ∧ a.keep = 0 ∧ a.user = 0 ∧ a.entry.kind = 0 ∧ a.entry.box.toList = [] ∧ a.entry.uid = 0 ∧ a.entry.flags = 0 ∧ a.entry.to.toList = [] ∧ a.entry.text.toList = [] then 0 else 3 by unfold actFault; rw [if_neg (by omega), if_neg (by omega), if_neg (by omega), if_neg (by omega)])
  have hb := Below.refl w.heap.size w
  unfold maxLen at hd
  obtain ⟨kind, conn, user, keep, data, ⟨ek, eb, eu, ef, et, ex⟩⟩ := a
  dsimp only at *
  unfold Act'.val
  subst hk
  go_enter Try.func26, Try.ntmps26
  go_wp2_with fail
  all_goals
    go_ret
    refine ⟨ret_int ?_, ?_⟩
    · rw [HF.out]
      first | exact (if_pos (by refine ⟨?_, ?_, ?_, ?_, ?_, ?_, ?_, ?_, ?_, ?_⟩ <;> assumption)).symm | exact (if_neg (by rintro ⟨g0, g1, g2, g3, g4, g5, g6, g7, g8, g9⟩; contradiction)).symm
    · (repeat (first | with_reducible exact hb | with_reducible refine Below.trans ?_ (Below.mono hb ?_) | with_reducible exact Below.refl _ _ | with_reducible refine Below.setCell ?_ ?_ _ | with_reducible refine Below.alloc ?_ ?_ _ | with_reducible refine Below.drew ?_ | with_reducible refine below_drewN ?_ _))
      all_goals (first | omega | (simp; done) | (simp; omega))

theorem Ck_any (a : Act') (w : World) (hd : a.data.size ≤ maxLen) :
    Calls Try.prog 26 #[a.val] w fun e w' => e = .returned (.int .i64 (actFault a)) ∧ Below w.heap.size w w' := by
  have hk : a.kind < 1 ∨ 5 < a.kind ∨ a.kind = 1 ∨ a.kind = 2 ∨ a.kind = 3 ∨ a.kind = 4 ∨ a.kind = 5 := by omega
  rcases hk with hk | hk | hk | hk | hk | hk | hk
  · exact Ck_lo a w hd hk
  · exact Ck_hi a w hd hk
  · by_cases h1 : a.conn < 0
    · exact Ck_f1 a w hd hk h1
    · by_cases h2 : 2 < a.conn
      · exact Ck_f2 a w hd hk h2
      · by_cases h3 : 3000 < a.data.size
        · exact Ck_f3 a w hd hk (by omega) (by omega) h3
        · exact Ck_f4 a w hd hk (by omega) (by omega) (by omega)
  · exact Ck_x2 a w hd hk
  · by_cases h1 : a.keep < 0
    · exact Ck_c1 a w hd hk h1
    · by_cases h2 : 100000 < a.keep
      · exact Ck_c2 a w hd hk h2
      · exact Ck_c3 a w hd hk (by omega) (by omega)
  · exact Ck_x4 a w hd hk
  · by_cases h1 : a.user < 0
    · exact Ck_o1 a w hd hk h1
    · by_cases h2 : 2 < a.user
      · exact Ck_o2 a w hd hk h2
      · exact Ck_o3 a w hd hk (by omega) (by omega)

set_option maxRecDepth 20000 in
set_option maxHeartbeats 1000000 in
theorem Af_lo (a : Act') (w : World) (hd : a.data.size ≤ maxLen) (hk : a.kind < 1) :
    Calls Try.prog 27 #[a.val] w fun e w' => e = .returned (.int .i64 (actFault a)) ∧ Below w.heap.size w w' := by
  have HF := Lib.hid (show actFault a = 2 by unfold actFault; rw [if_pos (by omega)])
  have hb := Below.refl w.heap.size w
  unfold maxLen at hd
  obtain ⟨kind, conn, user, keep, data, ⟨ek, eb, eu, ef, et, ex⟩⟩ := a
  dsimp only at *
  unfold Act'.val
  go_enter Try.func27, Try.ntmps27
  go_wp2_with (go_at_call 32; first | (refine (In_yes _ _ _ _ ?_ ?_).mono ?_; omega; omega; rintro e w' ⟨rfl, rfl⟩) | (refine (In_no _ _ _ _ ?_).mono ?_; omega; rintro e w' ⟨rfl, rfl⟩))
  go_ret
  refine ⟨ret_int HF.out.symm, ?_⟩
  (repeat (first | with_reducible exact hb | with_reducible refine Below.trans ?_ (Below.mono hb ?_) | with_reducible exact Below.refl _ _ | with_reducible refine Below.setCell ?_ ?_ _ | with_reducible refine Below.alloc ?_ ?_ _ | with_reducible refine Below.drew ?_ | with_reducible refine below_drewN ?_ _))
  all_goals (first | omega | (simp; done) | (simp; omega))

set_option maxRecDepth 20000 in
set_option maxHeartbeats 1000000 in
theorem Af_hi (a : Act') (w : World) (hd : a.data.size ≤ maxLen) (hk : 5 < a.kind) :
    Calls Try.prog 27 #[a.val] w fun e w' => e = .returned (.int .i64 (actFault a)) ∧ Below w.heap.size w w' := by
  have HF := Lib.hid (show actFault a = 2 by unfold actFault; rw [if_pos (by omega)])
  have hb := Below.refl w.heap.size w
  unfold maxLen at hd
  obtain ⟨kind, conn, user, keep, data, ⟨ek, eb, eu, ef, et, ex⟩⟩ := a
  dsimp only at *
  unfold Act'.val
  go_enter Try.func27, Try.ntmps27
  go_wp2_with (go_at_call 32; first | (refine (In_yes _ _ _ _ ?_ ?_).mono ?_; omega; omega; rintro e w' ⟨rfl, rfl⟩) | (refine (In_no _ _ _ _ ?_).mono ?_; omega; rintro e w' ⟨rfl, rfl⟩))
  go_ret
  refine ⟨ret_int HF.out.symm, ?_⟩
  (repeat (first | with_reducible exact hb | with_reducible refine Below.trans ?_ (Below.mono hb ?_) | with_reducible exact Below.refl _ _ | with_reducible refine Below.setCell ?_ ?_ _ | with_reducible refine Below.alloc ?_ ?_ _ | with_reducible refine Below.drew ?_ | with_reducible refine below_drewN ?_ _))
  all_goals (first | omega | (simp; done) | (simp; omega))

set_option maxRecDepth 20000 in
set_option maxHeartbeats 1000000 in
theorem Af_f1 (a : Act') (w : World) (hd : a.data.size ≤ maxLen) (hk : a.kind = 1) (h1 : a.conn < 0) :
    Calls Try.prog 27 #[a.val] w fun e w' => e = .returned (.int .i64 (actFault a)) ∧ Below w.heap.size w w' := by
  have HF := Lib.hid (show actFault a = 6 by unfold actFault; rw [if_neg (by omega), if_pos hk, if_pos (by omega)])
  have hb := Below.refl w.heap.size w
  unfold maxLen at hd
  obtain ⟨kind, conn, user, keep, data, ⟨ek, eb, eu, ef, et, ex⟩⟩ := a
  dsimp only at *
  unfold Act'.val
  subst hk
  go_enter Try.func27, Try.ntmps27
  go_wp2_with (go_at_call 32; first | (refine (In_yes _ _ _ _ ?_ ?_).mono ?_; omega; omega; rintro e w' ⟨rfl, rfl⟩) | (refine (In_no _ _ _ _ ?_).mono ?_; omega; rintro e w' ⟨rfl, rfl⟩))
  go_ret
  refine ⟨ret_int HF.out.symm, ?_⟩
  (repeat (first | with_reducible exact hb | with_reducible refine Below.trans ?_ (Below.mono hb ?_) | with_reducible exact Below.refl _ _ | with_reducible refine Below.setCell ?_ ?_ _ | with_reducible refine Below.alloc ?_ ?_ _ | with_reducible refine Below.drew ?_ | with_reducible refine below_drewN ?_ _))
  all_goals (first | omega | (simp; done) | (simp; omega))

set_option maxRecDepth 20000 in
set_option maxHeartbeats 1000000 in
theorem Af_f2 (a : Act') (w : World) (hd : a.data.size ≤ maxLen) (hk : a.kind = 1) (h1 : 2 < a.conn) :
    Calls Try.prog 27 #[a.val] w fun e w' => e = .returned (.int .i64 (actFault a)) ∧ Below w.heap.size w w' := by
  have HF := Lib.hid (show actFault a = 6 by unfold actFault; rw [if_neg (by omega), if_pos hk, if_pos (by omega)])
  have hb := Below.refl w.heap.size w
  unfold maxLen at hd
  obtain ⟨kind, conn, user, keep, data, ⟨ek, eb, eu, ef, et, ex⟩⟩ := a
  dsimp only at *
  unfold Act'.val
  subst hk
  go_enter Try.func27, Try.ntmps27
  go_wp2_with (go_at_call 32; first | (refine (In_yes _ _ _ _ ?_ ?_).mono ?_; omega; omega; rintro e w' ⟨rfl, rfl⟩) | (refine (In_no _ _ _ _ ?_).mono ?_; omega; rintro e w' ⟨rfl, rfl⟩))
  go_ret
  refine ⟨ret_int HF.out.symm, ?_⟩
  (repeat (first | with_reducible exact hb | with_reducible refine Below.trans ?_ (Below.mono hb ?_) | with_reducible exact Below.refl _ _ | with_reducible refine Below.setCell ?_ ?_ _ | with_reducible refine Below.alloc ?_ ?_ _ | with_reducible refine Below.drew ?_ | with_reducible refine below_drewN ?_ _))
  all_goals (first | omega | (simp; done) | (simp; omega))

set_option maxRecDepth 20000 in
set_option maxHeartbeats 1000000 in
theorem Af_f3 (a : Act') (w : World) (hd : a.data.size ≤ maxLen) (hk : a.kind = 1) (h1 : 0 ≤ a.conn) (h2 : a.conn ≤ 2) (h3 : 3000 < a.data.size) :
    Calls Try.prog 27 #[a.val] w fun e w' => e = .returned (.int .i64 (actFault a)) ∧ Below w.heap.size w w' := by
  have HF := Lib.hid (show actFault a = 1 by unfold actFault; rw [if_neg (by omega), if_pos hk, if_neg (by omega), if_pos (by omega)])
  have hb := Below.refl w.heap.size w
  unfold maxLen at hd
  obtain ⟨kind, conn, user, keep, data, ⟨ek, eb, eu, ef, et, ex⟩⟩ := a
  dsimp only at *
  unfold Act'.val
  subst hk
  go_enter Try.func27, Try.ntmps27
  go_wp2_with (go_at_call 32; first | (refine (In_yes _ _ _ _ ?_ ?_).mono ?_; omega; omega; rintro e w' ⟨rfl, rfl⟩) | (refine (In_no _ _ _ _ ?_).mono ?_; omega; rintro e w' ⟨rfl, rfl⟩))
  go_ret
  refine ⟨ret_int HF.out.symm, ?_⟩
  (repeat (first | with_reducible exact hb | with_reducible refine Below.trans ?_ (Below.mono hb ?_) | with_reducible exact Below.refl _ _ | with_reducible refine Below.setCell ?_ ?_ _ | with_reducible refine Below.alloc ?_ ?_ _ | with_reducible refine Below.drew ?_ | with_reducible refine below_drewN ?_ _))
  all_goals (first | omega | (simp; done) | (simp; omega))

set_option maxRecDepth 20000 in
set_option maxHeartbeats 1000000 in
theorem Af_f4 (a : Act') (w : World) (hd : a.data.size ≤ maxLen) (hk : a.kind = 1) (h1 : 0 ≤ a.conn) (h2 : a.conn ≤ 2) (h3 : a.data.size ≤ 3000) :
    Calls Try.prog 27 #[a.val] w fun e w' => e = .returned (.int .i64 (actFault a)) ∧ Below w.heap.size w w' := by
  have HF := Lib.hid (show actFault a = if a.user = 0 ∧ a.keep = 0 ∧ a.entry.kind = 0 ∧ a.entry.box.toList = [] ∧ a.entry.uid = 0 ∧ a.entry.flags = 0 ∧ a.entry.to.toList = [] ∧ a.entry.text.toList = [] then 0 else 3 by unfold actFault; rw [if_neg (by omega), if_pos hk, if_neg (by omega), if_neg (by omega)])
  have hb := Below.refl w.heap.size w
  unfold maxLen at hd
  obtain ⟨kind, conn, user, keep, data, ⟨ek, eb, eu, ef, et, ex⟩⟩ := a
  dsimp only at *
  unfold Act'.val
  subst hk
  go_enter Try.func27, Try.ntmps27
  go_wp2_with (go_at_call 32; first | (refine (In_yes _ _ _ _ ?_ ?_).mono ?_; omega; omega; rintro e w' ⟨rfl, rfl⟩) | (refine (In_no _ _ _ _ ?_).mono ?_; omega; rintro e w' ⟨rfl, rfl⟩))
  all_goals
    go_ret
    refine ⟨ret_int ?_, ?_⟩
    · rw [HF.out]
      first | exact (if_pos (by refine ⟨?_, ?_, ?_, ?_, ?_, ?_, ?_, ?_⟩ <;> assumption)).symm | exact (if_neg (by rintro ⟨g0, g1, g2, g3, g4, g5, g6, g7⟩; contradiction)).symm
    · (repeat (first | with_reducible exact hb | with_reducible refine Below.trans ?_ (Below.mono hb ?_) | with_reducible exact Below.refl _ _ | with_reducible refine Below.setCell ?_ ?_ _ | with_reducible refine Below.alloc ?_ ?_ _ | with_reducible refine Below.drew ?_ | with_reducible refine below_drewN ?_ _))
      all_goals (first | omega | (simp; done) | (simp; omega))

set_option maxRecDepth 20000 in
set_option maxHeartbeats 1000000 in
theorem Af_c1 (a : Act') (w : World) (hd : a.data.size ≤ maxLen) (hk : a.kind = 3) (h1 : a.keep < 0) :
    Calls Try.prog 27 #[a.val] w fun e w' => e = .returned (.int .i64 (actFault a)) ∧ Below w.heap.size w w' := by
  have HF := Lib.hid (show actFault a = 6 by unfold actFault; rw [if_neg (by omega), if_neg (by omega), if_pos hk, if_pos (by omega)])
  have hb := Below.refl w.heap.size w
  unfold maxLen at hd
  obtain ⟨kind, conn, user, keep, data, ⟨ek, eb, eu, ef, et, ex⟩⟩ := a
  dsimp only at *
  unfold Act'.val
  subst hk
  go_enter Try.func27, Try.ntmps27
  go_wp2_with (go_at_call 32; first | (refine (In_yes _ _ _ _ ?_ ?_).mono ?_; omega; omega; rintro e w' ⟨rfl, rfl⟩) | (refine (In_no _ _ _ _ ?_).mono ?_; omega; rintro e w' ⟨rfl, rfl⟩))
  go_ret
  refine ⟨ret_int HF.out.symm, ?_⟩
  (repeat (first | with_reducible exact hb | with_reducible refine Below.trans ?_ (Below.mono hb ?_) | with_reducible exact Below.refl _ _ | with_reducible refine Below.setCell ?_ ?_ _ | with_reducible refine Below.alloc ?_ ?_ _ | with_reducible refine Below.drew ?_ | with_reducible refine below_drewN ?_ _))
  all_goals (first | omega | (simp; done) | (simp; omega))

set_option maxRecDepth 20000 in
set_option maxHeartbeats 1000000 in
theorem Af_c2 (a : Act') (w : World) (hd : a.data.size ≤ maxLen) (hk : a.kind = 3) (h1 : 100000 < a.keep) :
    Calls Try.prog 27 #[a.val] w fun e w' => e = .returned (.int .i64 (actFault a)) ∧ Below w.heap.size w w' := by
  have HF := Lib.hid (show actFault a = 6 by unfold actFault; rw [if_neg (by omega), if_neg (by omega), if_pos hk, if_pos (by omega)])
  have hb := Below.refl w.heap.size w
  unfold maxLen at hd
  obtain ⟨kind, conn, user, keep, data, ⟨ek, eb, eu, ef, et, ex⟩⟩ := a
  dsimp only at *
  unfold Act'.val
  subst hk
  go_enter Try.func27, Try.ntmps27
  go_wp2_with (go_at_call 32; first | (refine (In_yes _ _ _ _ ?_ ?_).mono ?_; omega; omega; rintro e w' ⟨rfl, rfl⟩) | (refine (In_no _ _ _ _ ?_).mono ?_; omega; rintro e w' ⟨rfl, rfl⟩))
  go_ret
  refine ⟨ret_int HF.out.symm, ?_⟩
  (repeat (first | with_reducible exact hb | with_reducible refine Below.trans ?_ (Below.mono hb ?_) | with_reducible exact Below.refl _ _ | with_reducible refine Below.setCell ?_ ?_ _ | with_reducible refine Below.alloc ?_ ?_ _ | with_reducible refine Below.drew ?_ | with_reducible refine below_drewN ?_ _))
  all_goals (first | omega | (simp; done) | (simp; omega))

set_option maxRecDepth 20000 in
set_option maxHeartbeats 1000000 in
theorem Af_c3 (a : Act') (w : World) (hd : a.data.size ≤ maxLen) (hk : a.kind = 3) (h1 : 0 ≤ a.keep) (h2 : a.keep ≤ 100000) :
    Calls Try.prog 27 #[a.val] w fun e w' => e = .returned (.int .i64 (actFault a)) ∧ Below w.heap.size w w' := by
  have HF := Lib.hid (show actFault a = if a.conn = 0 ∧ a.data.toList = [] ∧ a.user = 0 ∧ a.entry.kind = 0 ∧ a.entry.box.toList = [] ∧ a.entry.uid = 0 ∧ a.entry.flags = 0 ∧ a.entry.to.toList = [] ∧ a.entry.text.toList = [] then 0 else 3 by unfold actFault; rw [if_neg (by omega), if_neg (by omega), if_pos hk, if_neg (by omega)])
  have hb := Below.refl w.heap.size w
  unfold maxLen at hd
  obtain ⟨kind, conn, user, keep, data, ⟨ek, eb, eu, ef, et, ex⟩⟩ := a
  dsimp only at *
  unfold Act'.val
  subst hk
  go_enter Try.func27, Try.ntmps27
  go_wp2_with (go_at_call 32; first | (refine (In_yes _ _ _ _ ?_ ?_).mono ?_; omega; omega; rintro e w' ⟨rfl, rfl⟩) | (refine (In_no _ _ _ _ ?_).mono ?_; omega; rintro e w' ⟨rfl, rfl⟩))
  all_goals
    go_ret
    refine ⟨ret_int ?_, ?_⟩
    · rw [HF.out]
      first | exact (if_pos (by refine ⟨?_, ?_, ?_, ?_, ?_, ?_, ?_, ?_, ?_⟩ <;> assumption)).symm | exact (if_neg (by rintro ⟨g0, g1, g2, g3, g4, g5, g6, g7, g8⟩; contradiction)).symm
    · (repeat (first | with_reducible exact hb | with_reducible refine Below.trans ?_ (Below.mono hb ?_) | with_reducible exact Below.refl _ _ | with_reducible refine Below.setCell ?_ ?_ _ | with_reducible refine Below.alloc ?_ ?_ _ | with_reducible refine Below.drew ?_ | with_reducible refine below_drewN ?_ _))
      all_goals (first | omega | (simp; done) | (simp; omega))

set_option maxRecDepth 20000 in
set_option maxHeartbeats 1000000 in
theorem Af_o1 (a : Act') (w : World) (hd : a.data.size ≤ maxLen) (hk : a.kind = 5) (h1 : a.user < 0) :
    Calls Try.prog 27 #[a.val] w fun e w' => e = .returned (.int .i64 (actFault a)) ∧ Below w.heap.size w w' := by
  have HF := Lib.hid (show actFault a = 6 by unfold actFault; rw [if_neg (by omega), if_neg (by omega), if_neg (by omega), if_pos hk, if_pos (by omega)])
  have hb := Below.refl w.heap.size w
  unfold maxLen at hd
  obtain ⟨kind, conn, user, keep, data, ⟨ek, eb, eu, ef, et, ex⟩⟩ := a
  dsimp only at *
  unfold Act'.val
  subst hk
  go_enter Try.func27, Try.ntmps27
  go_wp2_with (go_at_call 32; first | (refine (In_yes _ _ _ _ ?_ ?_).mono ?_; omega; omega; rintro e w' ⟨rfl, rfl⟩) | (refine (In_no _ _ _ _ ?_).mono ?_; omega; rintro e w' ⟨rfl, rfl⟩))
  go_ret
  refine ⟨ret_int HF.out.symm, ?_⟩
  (repeat (first | with_reducible exact hb | with_reducible refine Below.trans ?_ (Below.mono hb ?_) | with_reducible exact Below.refl _ _ | with_reducible refine Below.setCell ?_ ?_ _ | with_reducible refine Below.alloc ?_ ?_ _ | with_reducible refine Below.drew ?_ | with_reducible refine below_drewN ?_ _))
  all_goals (first | omega | (simp; done) | (simp; omega))

set_option maxRecDepth 20000 in
set_option maxHeartbeats 1000000 in
theorem Af_o2 (a : Act') (w : World) (hd : a.data.size ≤ maxLen) (hk : a.kind = 5) (h1 : 2 < a.user) :
    Calls Try.prog 27 #[a.val] w fun e w' => e = .returned (.int .i64 (actFault a)) ∧ Below w.heap.size w w' := by
  have HF := Lib.hid (show actFault a = 6 by unfold actFault; rw [if_neg (by omega), if_neg (by omega), if_neg (by omega), if_pos hk, if_pos (by omega)])
  have hb := Below.refl w.heap.size w
  unfold maxLen at hd
  obtain ⟨kind, conn, user, keep, data, ⟨ek, eb, eu, ef, et, ex⟩⟩ := a
  dsimp only at *
  unfold Act'.val
  subst hk
  go_enter Try.func27, Try.ntmps27
  go_wp2_with (go_at_call 32; first | (refine (In_yes _ _ _ _ ?_ ?_).mono ?_; omega; omega; rintro e w' ⟨rfl, rfl⟩) | (refine (In_no _ _ _ _ ?_).mono ?_; omega; rintro e w' ⟨rfl, rfl⟩))
  go_ret
  refine ⟨ret_int HF.out.symm, ?_⟩
  (repeat (first | with_reducible exact hb | with_reducible refine Below.trans ?_ (Below.mono hb ?_) | with_reducible exact Below.refl _ _ | with_reducible refine Below.setCell ?_ ?_ _ | with_reducible refine Below.alloc ?_ ?_ _ | with_reducible refine Below.drew ?_ | with_reducible refine below_drewN ?_ _))
  all_goals (first | omega | (simp; done) | (simp; omega))

set_option maxRecDepth 20000 in
set_option maxHeartbeats 1000000 in
theorem Af_o3 (a : Act') (w : World) (hd : a.data.size ≤ maxLen) (hk : a.kind = 5) (h1 : 0 ≤ a.user) (h2 : a.user ≤ 2) :
    Calls Try.prog 27 #[a.val] w fun e w' => e = .returned (.int .i64 (actFault a)) ∧ Below w.heap.size w w' := by
  have HF := Lib.hid (show actFault a = if a.conn = 0 ∧ a.data.toList = [] ∧ a.keep = 0 then 0 else 3 by unfold actFault; rw [if_neg (by omega), if_neg (by omega), if_neg (by omega), if_pos hk, if_neg (by omega)])
  have hb := Below.refl w.heap.size w
  unfold maxLen at hd
  obtain ⟨kind, conn, user, keep, data, ⟨ek, eb, eu, ef, et, ex⟩⟩ := a
  dsimp only at *
  unfold Act'.val
  subst hk
  go_enter Try.func27, Try.ntmps27
  go_wp2_with (go_at_call 32; first | (refine (In_yes _ _ _ _ ?_ ?_).mono ?_; omega; omega; rintro e w' ⟨rfl, rfl⟩) | (refine (In_no _ _ _ _ ?_).mono ?_; omega; rintro e w' ⟨rfl, rfl⟩))
  all_goals
    go_ret
    refine ⟨ret_int ?_, ?_⟩
    · rw [HF.out]
      first | exact (if_pos (by refine ⟨?_, ?_, ?_⟩ <;> assumption)).symm | exact (if_neg (by rintro ⟨g0, g1, g2⟩; contradiction)).symm
    · (repeat (first | with_reducible exact hb | with_reducible refine Below.trans ?_ (Below.mono hb ?_) | with_reducible exact Below.refl _ _ | with_reducible refine Below.setCell ?_ ?_ _ | with_reducible refine Below.alloc ?_ ?_ _ | with_reducible refine Below.drew ?_ | with_reducible refine below_drewN ?_ _))
      all_goals (first | omega | (simp; done) | (simp; omega))

set_option maxRecDepth 20000 in
set_option maxHeartbeats 1000000 in
theorem Af_x2 (a : Act') (w : World) (hd : a.data.size ≤ maxLen) (hk : a.kind = 2) :
    Calls Try.prog 27 #[a.val] w fun e w' => e = .returned (.int .i64 (actFault a)) ∧ Below w.heap.size w w' := by
  have HF := Lib.hid (show actFault a = if a.conn = 0 ∧ a.data.toList = [] ∧ a.keep = 0 ∧ a.user = 0 ∧ a.entry.kind = 0 ∧ a.entry.box.toList = [] ∧ a.entry.uid = 0 ∧ a.entry.flags = 0 ∧ a.entry.to.toList = [] ∧ a.entry.text.toList = [] then 0 else 3 by unfold actFault; rw [if_neg (by omega), if_neg (by omega), if_neg (by omega), if_neg (by omega)])
  have hb := Below.refl w.heap.size w
  unfold maxLen at hd
  obtain ⟨kind, conn, user, keep, data, ⟨ek, eb, eu, ef, et, ex⟩⟩ := a
  dsimp only at *
  unfold Act'.val
  subst hk
  go_enter Try.func27, Try.ntmps27
  go_wp2_with (go_at_call 32; first | (refine (In_yes _ _ _ _ ?_ ?_).mono ?_; omega; omega; rintro e w' ⟨rfl, rfl⟩) | (refine (In_no _ _ _ _ ?_).mono ?_; omega; rintro e w' ⟨rfl, rfl⟩))
  all_goals
    go_ret
    refine ⟨ret_int ?_, ?_⟩
    · rw [HF.out]
      first | exact (if_pos (by refine ⟨?_, ?_, ?_, ?_, ?_, ?_, ?_, ?_, ?_, ?_⟩ <;> assumption)).symm | exact (if_neg (by rintro ⟨g0, g1, g2, g3, g4, g5, g6, g7, g8, g9⟩; contradiction)).symm
    · (repeat (first | with_reducible exact hb | with_reducible refine Below.trans ?_ (Below.mono hb ?_) | with_reducible exact Below.refl _ _ | with_reducible refine Below.setCell ?_ ?_ _ | with_reducible refine Below.alloc ?_ ?_ _ | with_reducible refine Below.drew ?_ | with_reducible refine below_drewN ?_ _))
      all_goals (first | omega | (simp; done) | (simp; omega))

set_option maxRecDepth 20000 in
set_option maxHeartbeats 1000000 in
theorem Af_x4 (a : Act') (w : World) (hd : a.data.size ≤ maxLen) (hk : a.kind = 4) :
    Calls Try.prog 27 #[a.val] w fun e w' => e = .returned (.int .i64 (actFault a)) ∧ Below w.heap.size w w' := by
  have HF := Lib.hid (show actFault a = if a.conn = 0 ∧ a.data.toList = [] ∧ a.keep = 0 ∧ a.user = 0 ∧ a.entry.kind = 0 ∧ a.entry.box.toList = [] ∧ a.entry.uid = 0 ∧ a.entry.flags = 0 ∧ a.entry.to.toList = [] ∧ a.entry.text.toList = [] then 0 else 3 by unfold actFault; rw [if_neg (by omega), if_neg (by omega), if_neg (by omega), if_neg (by omega)])
  have hb := Below.refl w.heap.size w
  unfold maxLen at hd
  obtain ⟨kind, conn, user, keep, data, ⟨ek, eb, eu, ef, et, ex⟩⟩ := a
  dsimp only at *
  unfold Act'.val
  subst hk
  go_enter Try.func27, Try.ntmps27
  go_wp2_with (go_at_call 32; first | (refine (In_yes _ _ _ _ ?_ ?_).mono ?_; omega; omega; rintro e w' ⟨rfl, rfl⟩) | (refine (In_no _ _ _ _ ?_).mono ?_; omega; rintro e w' ⟨rfl, rfl⟩))
  all_goals
    go_ret
    refine ⟨ret_int ?_, ?_⟩
    · rw [HF.out]
      first | exact (if_pos (by refine ⟨?_, ?_, ?_, ?_, ?_, ?_, ?_, ?_, ?_, ?_⟩ <;> assumption)).symm | exact (if_neg (by rintro ⟨g0, g1, g2, g3, g4, g5, g6, g7, g8, g9⟩; contradiction)).symm
    · (repeat (first | with_reducible exact hb | with_reducible refine Below.trans ?_ (Below.mono hb ?_) | with_reducible exact Below.refl _ _ | with_reducible refine Below.setCell ?_ ?_ _ | with_reducible refine Below.alloc ?_ ?_ _ | with_reducible refine Below.drew ?_ | with_reducible refine below_drewN ?_ _))
      all_goals (first | omega | (simp; done) | (simp; omega))

theorem Af_any (a : Act') (w : World) (hd : a.data.size ≤ maxLen) :
    Calls Try.prog 27 #[a.val] w fun e w' => e = .returned (.int .i64 (actFault a)) ∧ Below w.heap.size w w' := by
  have hk : a.kind < 1 ∨ 5 < a.kind ∨ a.kind = 1 ∨ a.kind = 2 ∨ a.kind = 3 ∨ a.kind = 4 ∨ a.kind = 5 := by omega
  rcases hk with hk | hk | hk | hk | hk | hk | hk
  · exact Af_lo a w hd hk
  · exact Af_hi a w hd hk
  · by_cases h1 : a.conn < 0
    · exact Af_f1 a w hd hk h1
    · by_cases h2 : 2 < a.conn
      · exact Af_f2 a w hd hk h2
      · by_cases h3 : 3000 < a.data.size
        · exact Af_f3 a w hd hk (by omega) (by omega) h3
        · exact Af_f4 a w hd hk (by omega) (by omega) (by omega)
  · exact Af_x2 a w hd hk
  · by_cases h1 : a.keep < 0
    · exact Af_c1 a w hd hk h1
    · by_cases h2 : 100000 < a.keep
      · exact Af_c2 a w hd hk h2
      · exact Af_c3 a w hd hk (by omega) (by omega)
  · exact Af_x4 a w hd hk
  · by_cases h1 : a.user < 0
    · exact Af_o1 a w hd hk h1
    · by_cases h2 : 2 < a.user
      · exact Af_o2 a w hd hk h2
      · exact Af_o3 a w hd hk (by omega) (by omega)
end Go.Proofs.Ytdofgjpgppaghaa

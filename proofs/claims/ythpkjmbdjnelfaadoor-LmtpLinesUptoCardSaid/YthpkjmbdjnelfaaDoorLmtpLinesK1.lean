/- Texts that the law LmtpLines rests on, packed. -/
import Derived.Test.YthpkjmbdjnelfaaDoorGD
import Derived.Test.YthpkjmbdjnelfaaDoorGW
import Derived.Test.YthpkjmbdjnelfaaDoorLmtpLinesK0
import Derived.Test.YthpkjmbdjnelfaaDoorGV
import Derived.Test.YthpkjmbdjnelfaaDoorGC
import Derived.Test.YthpkjmbdjnelfaaDoorGB
namespace Go.Proofs.YthpkjmbdjnelfaaDoor
open Go.RowKit
set_option linter.unusedSimpArgs false
set_option linter.unusedVariables false

/-- P1.1 -/
def small (c : UInt8) : UInt8 := if 65 ≤ c.toNat ∧ c.toNat ≤ 90 then c + 32 else c
def foldL (s : ByteArray) : List UInt8 := (bs s).map small
theorem foldL_len (s : ByteArray) : (foldL s).length = s.size := by simp [foldL, bs_len]
theorem foldL_get (s : ByteArray) (j : Nat) (hj : j < s.size) : (foldL s)[j]? = some (small s[j]) := by simp [foldL, bs_get s j hj]

theorem small_yes (c : UInt8) (h1 : 65 ≤ (c.toNat : Int)) (h2 : (c.toNat : Int) ≤ 90) : ((small c).toNat : Int) = (c.toNat : Int) + 32 := by
  have : small c = c + 32 := if_pos ⟨by omega, by omega⟩
  rw [this, UInt8.toNat_add]
  have : (32 : UInt8).toNat = 32 := rfl
  rw [this]; omega
theorem small_no (c : UInt8) (h : (c.toNat : Int) < 65 ∨ 90 < (c.toNat : Int)) : small c = c := if_neg (by omega)

set_option maxRecDepth 20000 in
theorem small_any (c : UInt8) (w : World) :
    Calls Tryd.prog 163 #[.int .u8 c.toNat] w fun e w' => e = .returned (bv (small c)) ∧ w = w' := by
  have hu : (c.toNat : Int) < 256 := by have := c.toNat_lt; omega
  by_cases h : 65 ≤ (c.toNat : Int) ∧ (c.toNat : Int) ≤ 90
  · obtain ⟨h1, h2⟩ := h
    have HS := Lib.hid (small_yes c h1 h2)
    go_enter Tryd.func163, Tryd.ntmps163
    go_wp2
    go_ret
    exact ⟨by unfold bv; rw [HS.out]; go_num, rfl⟩
  · have HS := Lib.hid (small_no c (by omega))
    have h' : (c.toNat : Int) < 65 ∨ 90 < (c.toNat : Int) := by omega
    clear h
    rcases h' with h' | h'
    all_goals
      go_enter Tryd.func163, Tryd.ntmps163
      go_wp2
      go_ret
      exact ⟨by rw [HS.out]; rfl, rfl⟩

theorem fold_any (s : ByteArray) (w : World) (hs : s.size ≤ 1000000) :
    Calls Tryd.prog 125 #[.string s] w fun e w' => e = .returned (.string (mk (foldL s))) ∧ Below w.heap.size w w' := by
  go_enter Tryd.func125, Tryd.ntmps125
  go_wp2_with (refine wpList_bytes_of rfl _ 9 66 5 rfl Tryd.underlying9 Tryd.underlying66 Tryd.underlying5 rfl ?_; intro cap w1 hf)
  have HF := Lib.hid hf
  clear hf
  go_loopw [4, 5, 10] (fun x4 x5 i wr => ∃ k : Nat, k ≤ s.size ∧ i = .int .i64 k ∧ Below w.heap.size w wr ∧
      (∀ (j : Nat) (hj : j < s.size), wr.cell? ⟨w.heap.size, j, none⟩ = some (bv (if j < k then small s[j] else s[j]))) ∧ ∀ j : Nat, j < s.size → wr.frozen? ⟨w.heap.size, j, none⟩ = false)
    (fun _ _ i _ => s.size - (intOf i).toNat)
  case atStart => exact ⟨0, Nat.zero_le _, rfl, HF.out.below, fun j hj => by simpa using HF.out.cell j hj, HF.out.free⟩
  case round =>
    obtain ⟨k, hk, rfl, hb, hc, hz⟩ := hrel
    by_cases hlt : k < s.size
    · have hck : wr.cell? ⟨w.heap.size, k, none⟩ = some (.int .u8 s[k].toNat) := by simpa [bv] using hc k hlt
      have hzk := hz k hlt
      have HC := Lib.hid hc
      have HZ := Lib.hid hz
      clear hc hz
      go_wp2_with (go_at_call 163; refine (small_any _ _).mono ?_; rintro e w' ⟨rfl, rfl⟩; unfold bv)
      go_roundw
      case rel =>
        refine ⟨k + 1, by omega, by go_num, hb.setCell (Nat.le_refl _) _, fun j hj => ?_, fun j hj => by simpa using HZ.out j hj⟩
        by_cases e : j = k
        · subst e
          rw [World.cell?_setCell_same _ _ _ hck, if_pos (by omega)]; rfl
        · rw [World.cell?_setCell_other _ _ _ _ (by intro h; injection h; omega), HC.out j hj]
          by_cases hjk : j < k
          · rw [if_pos hjk, if_pos (by omega)]
          · rw [if_neg hjk, if_neg (by omega)]
      case measure => simp [intOf]; omega
    · have hks : k = s.size := by omega
      subst hks
      have HR : Sl wr (fun b => b = w.heap.size) 1 (some ⟨w.heap.size, 0, none⟩) s.size ((foldL s).map bv) :=
        Sl.of_cells rfl (by simp [foldL_len]) (fun j u hu => by
          rw [List.getElem?_map, Option.map_eq_some_iff] at hu
          obtain ⟨x, hx, rfl⟩ := hu
          have hj : j < s.size := by rw [← foldL_len]; exact (List.getElem?_eq_some_iff.1 hx).1
          rw [foldL_get s j hj] at hx
          injection hx with hx
          subst hx
          rw [Nat.zero_add, hc j hj, if_pos hj])
      clear hc hz
      have HR' := Lib.hid HR
      clear HR
      go_wp2_with (refine wpList_string_of rfl _ 66 9 5 rfl Tryd.underlying66 Tryd.underlying5 Tryd.underlying9 rfl HR'.out ?_)
      go_ret
      exact ⟨rfl, hb⟩
end Go.Proofs.YthpkjmbdjnelfaaDoor

namespace Go.Proofs.YthpkjmbdjnelfaaDoor
open Go.RowKit
set_option linter.unusedSimpArgs false
set_option linter.unusedVariables false

theorem el_u8 : Elem Tryd.prog 66 5 1 1 := ⟨Tryd.underlying66, by kernel_rfl, by decide⟩
theorem one_one (v : Value) (h : v.oneCell' = true) : ∀ u ∈ [v], u.oneCell' = true := by
  intro u hu
  rw [List.mem_singleton] at hu
  rw [hu]; exact h

set_option maxRecDepth 20000 in
theorem lower_any (s : ByteArray) (w : World) (hs : s.size ≤ 1000000) :
    Calls Tryd.prog 69 #[.string s] w fun e w' => e = .returned (.string (mk (foldL s))) ∧ Below w.heap.size w w' := by
  go_enter Tryd.func69, Tryd.ntmps69
  go_wp2_with fail
  go_loopw [3, 4, 5] (fun v i x5 wr => ∃ k : Nat, k ≤ s.size ∧ i = .int .i64 k ∧ Below w.heap.size w wr ∧ wr.ownsRow w.heap.size 5 1 v k (((foldL s).take k).map bv))
    (fun _ i _ _ => s.size - (intOf i).toNat)
  case atStart => exact ⟨0, Nat.zero_le _, rfl, Below.refl _ _, World.ownsRow_nil _ _ _ _⟩
  case round =>
    obtain ⟨k, hk, rfl, hb, hown⟩ := hrel
    have HO := Lib.hid hown
    clear hown
    by_cases hlt : k < s.size
    · have hu : (s[k].toNat : Int) < 256 := by have := s[k].toNat_lt; omega
      have HT := Lib.hid (show (foldL s).take (k + 1) = (foldL s).take k ++ [small s[k]] by
        rw [List.take_add_one, foldL_get s k hlt]; rfl)
      by_cases h : 65 ≤ (s[k].toNat : Int) ∧ (s[k].toNat : Int) ≤ 90
      · obtain ⟨h1, h2⟩ := h
        have HS := Lib.hid (small_yes s[k] h1 h2)
        go_wp2_with (first
          | (go_at_call 63; refine (In_yes _ _ _ _ h1 h2).mono ?_; rintro e w' ⟨rfl, rfl⟩)
          | (refine wpList_append_sl el_u8 rfl _ _ rfl rfl (HO.out.alloc _) rfl (Sl.new _ _ _ 1 rfl) (one_one _ rfl) (by simp) (by unfold maxLen; omega) (by omega) (by have := hb.size; simp; omega) ?_; intro A1 c1 w1 hown' hgr hb1))
        go_roundw
        case rel =>
          refine ⟨k + 1, by omega, by go_num, (hb.alloc hb.size _).trans hb1, ?_⟩
          rw [HT.out, List.map_append]
          simpa [bv, HS.out] using hown'
        case measure => simp [intOf]; omega
      · have h' : (s[k].toNat : Int) < 65 ∨ 90 < (s[k].toNat : Int) := by omega
        have HS := Lib.hid (small_no s[k] h')
        clear h
        rcases h' with h' | h'
        all_goals
          go_wp2_with (first
            | (go_at_call 63; refine (In_no _ _ _ _ ?_).mono ?_; omega; rintro e w' ⟨rfl, rfl⟩)
            | (refine wpList_append_sl el_u8 rfl _ _ rfl rfl (HO.out.alloc _) rfl (Sl.new _ _ _ 1 rfl) (one_one _ rfl) (by simp) (by unfold maxLen; omega) (by omega) (by have := hb.size; simp; omega) ?_; intro A1 c1 w1 hown' hgr hb1))
          go_roundw
          case rel =>
            refine ⟨k + 1, by omega, by go_num, (hb.alloc hb.size _).trans hb1, ?_⟩
            rw [HT.out, List.map_append]
            simpa [bv, HS.out] using hown'
          case measure => simp [intOf]; omega
    · have hks : k = s.size := by omega
      subst hks
      have HW := Lib.hid (show (foldL s).take s.size = foldL s from List.take_of_length_le (by rw [foldL_len]; omega))
      obtain ⟨A, c, rfl, _, _⟩ := own_form HO.out
      go_wp2_with (refine wpList_string_of (l := foldL s) rfl _ 66 9 5 rfl Tryd.underlying66 Tryd.underlying5 Tryd.underlying9 rfl (by rw [← HW.out]; exact Sl.of_own HO.out) ?_)
      go_ret
      exact ⟨rfl, hb⟩

end Go.Proofs.YthpkjmbdjnelfaaDoor

namespace Go.Proofs.YthpkjmbdjnelfaaDoor
open Go.RowKit
set_option linter.unusedSimpArgs false
set_option linter.unusedVariables false
open Go.RowKit
theorem foldL_data (t : ByteArray) : (mk (foldL t)).data.toList = t.data.toList.map small := by simp [mk, foldL, bs]
theorem fold_p (T : Tbl) (s : Tx) (h : s.length ≤ 2000) : PC Tryd.prog T 125 [.d (.str s)] (.d (.str (s.map small))) := PC.old Tryd.call125 fun F w vs hF hT R => by
  obtain ⟨v, rfl, hv⟩ := slr1 R
  cases hv with
  | d hv =>
    obtain ⟨t, rfl, e1, _⟩ := hv.str_inv
    subst e1
    have hsz : t.size ≤ 2000 := by rw [← size_data]; exact h
    refine (fold_any t w (by omega)).mono ?_
    rintro e w' ⟨rfl, hb⟩
    refine ⟨_, rfl, hb, ?_⟩
    rw [← foldL_data]
    refine .d (.str _ ?_)
    rw [mk_size, foldL_len]
    unfold maxLen; omega
theorem lower_p (T : Tbl) (s : Tx) (h : s.length ≤ 2000) : PC Tryd.prog T 69 [.d (.str s)] (.d (.str (s.map small))) := PC.old Tryd.call69 fun F w vs hF hT R => by
  obtain ⟨v, rfl, hv⟩ := slr1 R
  cases hv with
  | d hv =>
    obtain ⟨t, rfl, e1, _⟩ := hv.str_inv
    subst e1
    have hsz : t.size ≤ 2000 := by rw [← size_data]; exact h
    refine (lower_any t w (by omega)).mono ?_
    rintro e w' ⟨rfl, hb⟩
    refine ⟨_, rfl, hb, ?_⟩
    rw [← foldL_data]
    refine .d (.str _ ?_)
    rw [mk_size, foldL_len]
    unfold maxLen; omega
end Go.Proofs.YthpkjmbdjnelfaaDoor

namespace Go.Proofs.YthpkjmbdjnelfaaDoor
set_option linter.unusedSimpArgs false
set_option linter.unusedVariables false
def anV (r : Ad × Bool) : AV := .tup [.agg [.d (.str r.1.1), .d (.str r.1.2)], .d (.bool r.2)]
theorem angR_1 {s : Tx} (h : ((s.length : Int) < 2 ∨ ¬ ((s.getD 0 0).toNat : Int) = 60) ∨ ¬ ((s.getD (s.length - 1) 0).toNat : Int) = 62) : angR s = (([], []), false) := by
  unfold angR
  rw [if_pos]
  rcases h with (h | h) | h
  · exact .inl (by omega)
  · exact .inr (.inl fun e => h (by rw [e]; rfl))
  · exact .inr (.inr fun e => h (by rw [e]; rfl))
theorem angR_2 {s : Tx} (h : (2 ≤ (s.length : Int) ∧ ((s.getD 0 0).toNat : Int) = 60) ∧ ((s.getD (s.length - 1) 0).toNat : Int) = 62) : angR s = match atS ((s.take (s.length - 1)).drop 1) with | none => (([], []), false) | some p => (p, decide (adrE p.1 p.2 = 0)) := by
  have e1 : s.getD 0 0 = 60 := UInt8.toNat.inj (by have := h.1.2; show _ = 60; omega)
  have e2 : s.getD (s.length - 1) 0 = 62 := UInt8.toNat.inj (by have := h.2; show _ = 62; omega)
  unfold angR
  rw [if_neg]
  · rfl
  rintro (h9 | h9 | h9)
  · omega
  · exact h9 e1
  · exact h9 e2
def AtI (t : Tx) (j : Nat) : Prop := atS t = (atS (t.drop j)).map fun p => (t.take j ++ p.1, p.2)
theorem at_0 (t : Tx) : AtI t 0 := by
  unfold AtI
  rw [List.drop_zero]
  cases h : atS t with
  | none => rfl
  | some p => rfl
theorem at_t {t : Tx} {j : Nat} (hj : j < t.length) (h : AtI t j) (hc : ((t.getD j 0).toNat : Int) = 64) : atS t = some (t.take j, t.drop (j + 1)) := by
  unfold AtI at h
  have e : t[j] = 64 := by
    rw [List.getD_eq_getElem?_getD, List.getElem?_eq_getElem hj] at hc
    exact UInt8.toNat.inj (by simp only [Option.getD_some] at hc; show _ = 64; omega)
  rw [List.drop_eq_getElem_cons hj, atS, if_pos e] at h
  simpa using h
theorem at_f {t : Tx} {j : Nat} (hj : j < t.length) (h : AtI t j) (hc : ¬ ((t.getD j 0).toNat : Int) = 64) : AtI t (j + 1) := by
  unfold AtI at h ⊢
  have e : ¬ t[j] = 64 := fun e => hc (by
    rw [List.getD_eq_getElem?_getD, List.getElem?_eq_getElem hj, Option.getD_some, e]; rfl)
  rw [List.drop_eq_getElem_cons hj, atS, if_neg e] at h
  rw [h]
  cases atS (t.drop (j + 1)) with
  | none => rfl
  | some p =>
    show some (t.take j ++ (t[j] :: p.1), p.2) = some (t.take (j + 1) ++ p.1, p.2)
    rw [List.take_succ_eq_append_getElem hj, List.append_assoc]
    rfl
theorem at_e {t : Tx} {j : Nat} (hj : t.length ≤ j) (h : AtI t j) : atS t = none := by
  unfold AtI at h
  rw [List.drop_eq_nil_of_le hj] at h
  simpa [atS] using h
set_option maxRecDepth 4000 in
set_option maxHeartbeats 1000000 in
theorem angled_c (T : Tbl) (s : Tx) (hs : s.length ≤ 4096) : PC Tryd.prog T 67 [.d (.str s)] (anV (angR s)) := by
  refine ⟨Tryd.call67, PCall.enterS Tryd.func67 rfl Tryd.ntmps67 rfl fun hb => ?_⟩
  have hl1 : ((s.length : Int) - 1).toNat = s.length - 1 := by omega
  simp only [go_sem, Tryd.results67]
  refine AWp.rs fun K1 hK1 => ?_
  try simp only [go_sem]
  intro b2
  first | intro fb2 | have fb2 := True.intro
  try simp only [freshL] at fb2
  refine hK1 _ _ ?_
  try clear hK1 K1
  refine AWp.seq fun K2 hK2 => ?_
  refine AWp.rs fun K3 hK3 => ?_
  try simp only [go_sem, hl1]
  (repeat (with_reducible refine And.intro ?_ ?_; (first | (exact nfB) | (intro hg; refine ⟨hg, ?_⟩; omega) | (simp; omega))))
  refine hK3 _ _ ?_
  try clear hK3 K3
  refine AWp.mask [true, true, false, false, false, false, false, false, false, false, false, false, false, false, false, false, false, false, true] rfl ?_
  simp only [go_sem]
  refine AWp.cond _ rfl (fun hc0 => ?_) (fun hc0 => ?_)
  · skip
    try simp only [decide_eq_true_eq, decide_eq_false_iff_not, Bool.not_eq_true', Bool.or_eq_true] at hc0
    refine AWp.rs fun K4 hK4 => ?_
    try simp only [go_sem]
    refine hK4 _ _ ?_
    try clear hK4 K4
    refine AWp.ret ?_
    try simp only [go_sem]
    rw [angR_1 hc0]; simp [anV, LeA, LeL, LeD]
  · skip
    try simp only [decide_eq_true_eq, decide_eq_false_iff_not, Bool.not_eq_false', Bool.or_eq_false_iff, Int.not_lt] at hc0
    have ha := angR_2 (s := s) hc0
    have htl : ((s.take (s.length - 1)).drop 1).length ≤ 4096 := by simp; omega
    refine AWp.skip ?_
    refine thenQ_n ?_
    refine hK2 _ _ ?_
    try clear hK2 K2
    refine AWp.rs fun K5 hK5 => ?_
    try simp only [go_sem, hl1]
    (repeat (with_reducible refine And.intro ?_ ?_; omega))
    refine hK5 _ _ ?_
    try clear hK5 K5
    refine AWp.mask [false, true, true] rfl ?_
    simp only [go_sem]
    generalize hte : (s.take (s.length - 1)).drop 1 = t at ha htl ⊢
    refine AWp.seq fun K6 hK6 => ?_
    refine AWp.rs fun K7 hK7 => ?_
    try simp only [go_sem]
    refine hK7 _ _ ?_
    try clear hK7 K7
    refine AWp.block ?_
    refine AWp.loopS [true, true] [false, false, true] (fun n lc hc => ∃ (j : Nat), n = t.length - j ∧ EqS lc [(5, .d (.int .i64 (j : Nat)))] ∧ EqS hc (⟨[(b2, ⟨2, 1, [[.d (.str []), .d (.str [])]]⟩)], []⟩) ∧ (j ≤ t.length) ∧ (AtI t j)) rfl ?_ ?_
    · refine ⟨_, 0, rfl, ?_, ?_, ?_, ?_⟩
      · (try simp only [go_sem]) <;> first | exact ⟨rfl⟩ | (constructor; simp; done)
      · (try simp only [go_sem, icast, hl1, fb2]) <;> first | exact ⟨rfl⟩ | (constructor; simp; done)
      all_goals (first | omega | exact at_0 _)
    · rintro _ _ _ ⟨j, rfl, ⟨rfl⟩, ⟨rfl⟩, h1, h2⟩
      simp only [go_sem]
      refine AWp.seq fun K8 hK8 => ?_
      refine AWp.rs fun K9 hK9 => ?_
      try simp only [go_sem]
      refine hK9 _ _ ?_
      try clear hK9 K9
      refine AWp.cond _ rfl (fun hc1 => ?_) (fun hc1 => ?_)
      · skip
        try simp only [decide_eq_true_eq] at hc1
        have hlt : j < t.length := by omega
        refine AWp.skip ?_
        refine thenQ_n ?_
        refine hK8 _ _ ?_
        try clear hK8 K8
        refine AWp.mask [true, true, true] rfl ?_
        simp only [go_sem]
        refine AWp.seq fun K10 hK10 => ?_
        refine AWp.block ?_
        refine AWp.rs fun K11 hK11 => ?_
        try simp only [go_sem]
        (repeat (with_reducible refine And.intro ?_ ?_; omega))
        refine hK11 _ _ ?_
        try clear hK11 K11
        refine AWp.cond _ rfl (fun hc2 => ?_) (fun hc2 => ?_)
        · skip
          try simp only [decide_eq_true_eq] at hc2
          have hat := at_t hlt h2 hc2
          refine AWp.ds true [0, 1, 2, 3, 4, 5, 6, 7, 8, 9] rfl (by kernel_rfl) fun K12 hK12 => ?_
          try simp only [go_sem, icast]
          (repeat (with_reducible refine And.intro ?_ ?_; omega))
          intro b6
          first | intro fb6 | have fb6 := True.intro
          try simp only [freshL] at fb6
          refine hK12 _ _ ?_
          try clear hK12 K12
          refine AWp.mask [true, false, false, true] rfl ?_
          simp only [go_sem]
          refine AWp.dsN true [] [0, 1, 2, 3] [] 4 [5] rfl (by kernel_rfl) rfl fun K13 hK13 => ?_
          try simp only [go_sem]
          refine Exists.intro (fun h' : AH => getO b6 h'.objs = some ⟨2, 1, [[.d (.str (t.take j)), .d (.str (t.drop (j + 1)))]]⟩) (And.intro (by simp [getO]) ?_)
          refine FRN.ld rfl rfl (fun h' m1 => (by first | rfl | (simp only [go_sem, m1]; first | done | rfl | exact ⟨by omega, rfl⟩))) ?_
          try simp only [go_sem]
          refine FRN.ld rfl rfl (fun h' m1 => (by first | rfl | (simp only [go_sem, m1]; first | done | rfl | exact ⟨by omega, rfl⟩))) ?_
          try simp only [go_sem]
          refine FRN.call rfl rfl rfl rfl (addrFault_p T _ _ (by (try simp only [List.length_take]); omega) (by (try simp only [List.length_drop]); omega)) rfl rfl ?_
          try simp only [go_sem]
          refine FRN.op rfl (fun h' => (by first | rfl | (simp only [go_sem]; first | done | rfl | exact ⟨by omega, rfl⟩))) ?_
          try simp only [go_sem]
          refine FRN.nil ?_
          refine lvc_ok _ _ _ ?_
          try simp only [go_sem, fb6]
          refine hK13 _ _ ?_
          try clear hK13 K13
          refine AWp.mask [true, true] rfl ?_
          simp only [go_sem]
          refine AWp.ret ?_
          try simp only [go_sem, fb6]
          rw [ha, hat]; simp [anV, LeA, LeL, LeD]
        · skip
          try simp only [decide_eq_false_iff_not] at hc2
          refine AWp.skip ?_
          refine blkQ_n (thenQ_n ?_)
          refine hK10 _ _ ?_
          try clear hK10 K10
          refine AWp.mask [true, true, true] rfl ?_
          simp only [go_sem]
          refine AWp.rk fun K14 hK14 => ?_
          try simp only [go_sem, icast]
          (repeat (with_reducible refine And.intro ?_ ?_; omega))
          refine hK14 _ _ ?_
          try clear hK14 K14
          refine thenQ_n ?_
          refine EndS.mk [true, true] [false, false, true] [] [] [b2] [] rfl ?_ ?_
          · (try simp only [go_sem]) <;> try rfl
          refine .e ⟨_, ?_, (j + 1), rfl, ?_, ?_, ?_, ?_⟩
          · first | omega | (simp; omega) | (grind)
          · (try simp only [go_sem]) <;> first | exact ⟨rfl⟩ | (constructor; simp; done)
          · (try simp only [go_sem]) <;> first | exact ⟨rfl⟩ | (constructor; simp; done)
          · omega
          · exact at_f hlt h2 hc2
      · skip
        try simp only [decide_eq_false_iff_not, Int.not_lt] at hc1
        have hat := at_e (by omega) h2
        refine AWp.exit ?_
        refine thenQ_e (thenQ_e (blkQ_e (thenQ_n ?_)))
        refine hK6 _ _ ?_
        try clear hK6 K6
        refine AWp.mask [true] rfl ?_
        simp only [go_sem]
        refine AWp.rs fun K15 hK15 => ?_
        try simp only [go_sem]
        refine hK15 _ _ ?_
        try clear hK15 K15
        refine AWp.ret ?_
        try simp only [go_sem]
        rw [ha, hat]; simp [anV, LeA, LeL, LeD]
set_option maxRecDepth 4000 in
set_option maxHeartbeats 1000000 in
theorem Part_c (T : Tbl) (hL : LibT T) (l d : Tx) (h : adrE l d = 0) : PC Tryd.prog T 162 [.d (.int .i64 1), .agg [.d (.str l), .d (.str d)]] (.tup [.d (.str (adT (l, d))), .d (.int .i64 0)]) := by
  refine ⟨Tryd.call162, PCall.enterS Tryd.func162 rfl Tryd.ntmps162 rfl fun hb => ?_⟩
  obtain ⟨_, _, hll⟩ := adr_run h
  simp only [go_sem, Tryd.results162]
  refine AWp.rs fun K1 hK1 => ?_
  try simp only [go_sem]
  intro b3
  first | intro fb3 | have fb3 := True.intro
  try simp only [freshL] at fb3
  refine hK1 _ _ ?_
  try clear hK1 K1
  refine AWp.seq fun K2 hK2 => ?_
  refine AWp.rs fun K3 hK3 => ?_
  try simp only [go_sem]
  refine DW.pcr rfl rfl rfl rfl (whoCheck_p T hL _ _ (by (try simp only [List.length_take, List.length_drop]); omega) (by (try simp only [List.length_take, List.length_drop]); omega)) rfl rfl ?_
  try simp only [go_sem, h]
  refine hK3 _ _ ?_
  try clear hK3 K3
  refine AWp.mask [true, false, true, false, false, true] rfl ?_
  simp only [go_sem]
  refine AWp.rs fun K4 hK4 => ?_
  try simp only [go_sem]
  refine hK4 _ _ ?_
  try clear hK4 K4
  refine AWp.cond _ rfl (fun hc0 => ?_) (fun hc0 => ?_)
  · skip
    exact absurd hc0 (by simp)
  · skip
    try simp only [decide_eq_true_eq, Bool.not_eq_false'] at hc0
    refine AWp.skip ?_
    refine thenQ_n ?_
    refine hK2 _ _ ?_
    try clear hK2 K2
    refine AWp.seq fun K5 hK5 => ?_
    refine AWp.rs fun K6 hK6 => ?_
    try simp only [go_sem]
    refine hK6 _ _ ?_
    try clear hK6 K6
    refine AWp.mask [false, true, false, false, false, true] rfl ?_
    simp only [go_sem]
    refine AWp.block ?_
    refine AWp.rs fun K7 hK7 => ?_
    try simp only [go_sem]
    refine hK7 _ _ ?_
    try clear hK7 K7
    refine AWp.cond _ rfl (fun hc1 => ?_) (fun hc1 => ?_)
    · skip
      try simp only [decide_eq_true_eq] at hc1
      refine AWp.rs fun K8 hK8 => ?_
      try simp only [go_sem]
      (repeat (with_reducible refine And.intro ?_ ?_; (first | omega | (simp; omega))))
      refine hK8 _ _ ?_
      try clear hK8 K8
      refine AWp.mask [false, true, true] rfl ?_
      simp only [go_sem]
      refine AWp.ret ?_
      try simp only [go_sem]
      try simp [adT]
    · skip
      exact absurd hc1 (by simp)
set_option maxRecDepth 4000 in
set_option maxHeartbeats 1000000 in
theorem MatchIs_c (T : Tbl) (s p : Tx) (h1 : s.length ≤ 2000) (h2 : p.length ≤ 100) : PC Tryd.prog T 123 [.d (.int .i64 1), .d (.str s), .d (.str p)] (.tup [.d (.bool (decide (s.map small = p.map small))), .d (.int .i64 0)]) := by
  refine ⟨Tryd.call123, PCall.enterS Tryd.func123 rfl Tryd.ntmps123 rfl fun hb => ?_⟩
  simp only [go_sem, Tryd.results123]
  refine AWp.rs fun K1 hK1 => ?_
  try simp only [go_sem]
  refine hK1 _ _ ?_
  try clear hK1 K1
  refine AWp.seq fun K2 hK2 => ?_
  refine AWp.rs fun K3 hK3 => ?_
  try simp only [go_sem]
  (repeat (with_reducible refine And.intro ?_ ?_; decide))
  refine hK3 _ _ ?_
  try clear hK3 K3
  refine AWp.mask [true, true, true, false, false, false, false, false, false, false, true] rfl ?_
  simp only [go_sem]
  refine AWp.cond _ rfl (fun hc0 => ?_) (fun hc0 => ?_)
  · skip
    exact absurd hc0 (by simp)
  · skip
    try simp only [decide_eq_false_iff_not, Bool.or_eq_false_iff, Int.not_lt] at hc0
    refine AWp.skip ?_
    refine thenQ_n ?_
    refine hK2 _ _ ?_
    try clear hK2 K2
    refine AWp.seq fun K4 hK4 => ?_
    refine AWp.rs fun K5 hK5 => ?_
    try simp only [go_sem]
    (repeat (with_reducible refine And.intro ?_ ?_; (exact nfB)))
    refine hK5 _ _ ?_
    try clear hK5 K5
    refine AWp.mask [true, true, true, false, false, false, false, false, false, false, false, true] rfl ?_
    simp only [go_sem]
    refine AWp.cond _ rfl (fun hc1 => ?_) (fun hc1 => ?_)
    · skip
      exact absurd hc1 (by simp; omega)
    · skip
      try simp only [decide_eq_false_iff_not, Bool.or_eq_false_iff, Int.not_lt] at hc1
      refine AWp.skip ?_
      refine thenQ_n ?_
      refine hK4 _ _ ?_
      try clear hK4 K4
      refine AWp.rs fun K6 hK6 => ?_
      try simp only [go_sem]
      refine DW.pcr rfl rfl rfl rfl (fold_p T _ (by (try simp only [List.length_take]); omega)) rfl rfl ?_
      try simp only [go_sem]
      refine DW.pcr rfl rfl rfl rfl (fold_p T _ (by (try simp only [List.length_take]); omega)) rfl rfl ?_
      try simp only [go_sem]
      refine hK6 _ _ ?_
      try clear hK6 K6
      refine AWp.mask [true, false, false, true, true] rfl ?_
      simp only [go_sem]
      refine AWp.seq fun K7 hK7 => ?_
      refine AWp.rs fun K8 hK8 => ?_
      try simp only [go_sem]
      refine hK8 _ _ ?_
      try clear hK8 K8
      refine AWp.block ?_
      refine AWp.rs fun K9 hK9 => ?_
      try simp only [go_sem]
      refine hK9 _ _ ?_
      try clear hK9 K9
      refine AWp.cond _ rfl (fun hc2 => ?_) (fun hc2 => ?_)
      · skip
        try simp only [decide_eq_true_eq] at hc2
        refine AWp.rs fun K10 hK10 => ?_
        try simp only [go_sem]
        refine hK10 _ _ ?_
        try clear hK10 K10
        refine AWp.mask [false, true, true] rfl ?_
        simp only [go_sem]
        refine AWp.ret ?_
        try simp only [go_sem]
        try simp [LeA, LeL, LeD]
      · skip
        exact absurd hc2 (by simp)
set_option maxRecDepth 4000 in
set_option maxHeartbeats 1000000 in
theorem Fold_c (T : Tbl) (s : Tx) (h1 : s.length ≤ 2000) : PC Tryd.prog T 61 [.d (.str s)] (.tup [.d (.str (s.map small)), .d (.int .i64 0)]) := by
  refine ⟨Tryd.call61, PCall.enterS Tryd.func61 rfl Tryd.ntmps61 rfl fun hb => ?_⟩
  simp only [go_sem, Tryd.results61]
  refine AWp.rs fun K1 hK1 => ?_
  try simp only [go_sem]
  refine hK1 _ _ ?_
  try clear hK1 K1
  refine AWp.seq fun K2 hK2 => ?_
  refine AWp.rs fun K3 hK3 => ?_
  try simp only [go_sem]
  refine hK3 _ _ ?_
  try clear hK3 K3
  refine AWp.mask [true, false, false, false, false, true] rfl ?_
  simp only [go_sem]
  refine AWp.cond _ rfl (fun hc0 => ?_) (fun hc0 => ?_)
  · skip
    exact absurd hc0 (by simp; omega)
  · skip
    try simp only [decide_eq_false_iff_not, Int.not_lt] at hc0
    refine AWp.skip ?_
    refine thenQ_n ?_
    refine hK2 _ _ ?_
    try clear hK2 K2
    refine AWp.rs fun K4 hK4 => ?_
    try simp only [go_sem]
    refine DW.pcr rfl rfl rfl rfl (fold_p T _ (by (try simp only [List.length_take]); omega)) rfl rfl ?_
    try simp only [go_sem]
    refine hK4 _ _ ?_
    try clear hK4 K4
    refine AWp.mask [false, true, true] rfl ?_
    simp only [go_sem]
    refine AWp.ret ?_
    try simp only [go_sem]
    try simp [LeA, LeL, LeD]
/-- does a line begin so, and what comes then -/
def preR (s w : Tx) : Tx × Bool := if w.length ≤ s.length ∧ (s.take w.length).map small = w.map small then (s.drop w.length, true) else ([], false)
theorem preR_1 {s w : Tx} (h : w.length ≤ s.length) (h2 : (s.take w.length).map small = w.map small) : preR s w = (s.drop w.length, true) := if_pos ⟨h, h2⟩
theorem preR_0 {s w : Tx} (h : ¬ (w.length ≤ s.length ∧ (s.take w.length).map small = w.map small)) : preR s w = ([], false) := if_neg h
theorem preR_len (s w : Tx) : (preR s w).1.length ≤ s.length := by unfold preR; split <;> simp
set_option maxRecDepth 4000 in
set_option maxHeartbeats 1000000 in
theorem rest_c (T : Tbl) (s w : Tx) (h1 : s.length ≤ 2000) (h2 : w.length ≤ 100) : PC Tryd.prog T 58 [.d (.str s), .d (.str w)] (.tup [.d (.str ((preR s w).1)), .d (.bool ((preR s w).2))]) := by
  refine ⟨Tryd.call58, PCall.enterS Tryd.func58 rfl Tryd.ntmps58 rfl fun hb => ?_⟩
  simp only [go_sem, Tryd.results58]
  refine AWp.rs fun K1 hK1 => ?_
  try simp only [go_sem]
  refine hK1 _ _ ?_
  try clear hK1 K1
  refine AWp.seq fun K2 hK2 => ?_
  refine AWp.rs fun K3 hK3 => ?_
  try simp only [go_sem]
  refine hK3 _ _ ?_
  try clear hK3 K3
  refine AWp.mask [true, true, false, false, false, false, false, false, true] rfl ?_
  simp only [go_sem]
  refine AWp.cond _ rfl (fun hc0 => ?_) (fun hc0 => ?_)
  · skip
    try simp only [decide_eq_true_eq] at hc0
    refine AWp.rs fun K4 hK4 => ?_
    try simp only [go_sem]
    refine hK4 _ _ ?_
    try clear hK4 K4
    refine AWp.ret ?_
    try simp only [go_sem]
    rw [preR_0 (by rintro ⟨h8, h9⟩; omega)]; simp []
  · skip
    try simp only [decide_eq_false_iff_not, Int.not_lt] at hc0
    have hwl : w.length ≤ s.length := by omega
    refine AWp.skip ?_
    refine thenQ_n ?_
    refine hK2 _ _ ?_
    try clear hK2 K2
    refine AWp.seq fun K5 hK5 => ?_
    refine AWp.rs fun K6 hK6 => ?_
    try simp only [go_sem]
    (repeat (with_reducible refine And.intro ?_ ?_; omega))
    refine DW.pcr rfl rfl rfl rfl (MatchIs_c T _ _ (by (try simp only [List.length_take]); omega) h2) rfl rfl ?_
    try simp only [go_sem]
    refine hK6 _ _ ?_
    try clear hK6 K6
    refine AWp.mask [true, true, true] rfl ?_
    simp only [go_sem]
    refine AWp.rs fun K7 hK7 => ?_
    try simp only [go_sem]
    refine hK7 _ _ ?_
    try clear hK7 K7
    refine AWp.cond _ rfl (fun hc1 => ?_) (fun hc1 => ?_)
    · skip
      try simp only [decide_eq_false_iff_not, Bool.not_eq_true'] at hc1
      refine AWp.rs fun K8 hK8 => ?_
      try simp only [go_sem]
      refine hK8 _ _ ?_
      try clear hK8 K8
      refine AWp.mask [false, false, true, true] rfl ?_
      simp only [go_sem]
      refine AWp.ret ?_
      try simp only [go_sem]
      rw [preR_0 (by rintro ⟨h8, h9⟩; simp [h9] at hc1)]; simp []
    · skip
      try simp only [decide_eq_true_eq, Bool.not_eq_false'] at hc1
      refine AWp.skip ?_
      refine thenQ_n ?_
      refine hK5 _ _ ?_
      try clear hK5 K5
      refine AWp.rs fun K9 hK9 => ?_
      try simp only [go_sem]
      (repeat (with_reducible refine And.intro ?_ ?_; omega))
      refine hK9 _ _ ?_
      try clear hK9 K9
      refine AWp.mask [false, false, true, true] rfl ?_
      simp only [go_sem]
      refine AWp.ret ?_
      try simp only [go_sem]
      rw [preR_1 hwl (by simpa using hc1)]; simp []
set_option maxRecDepth 4000 in
set_option maxHeartbeats 1000000 in
theorem behind_c (T : Tbl) (s w : Tx) (h1 : s.length ≤ 2000) (h2 : w.length ≤ 100) : PC Tryd.prog T 66 [.d (.str s), .d (.str w)] (.tup [.d (.bool ((preR s w).2)), .d (.str ((preR s w).1))]) := by
  refine ⟨Tryd.call66, PCall.enterS Tryd.func66 rfl Tryd.ntmps66 rfl fun hb => ?_⟩
  simp only [go_sem, Tryd.results66]
  refine AWp.rs fun K1 hK1 => ?_
  try simp only [go_sem]
  refine hK1 _ _ ?_
  try clear hK1 K1
  refine AWp.seq fun K2 hK2 => ?_
  rcases Nat.lt_or_ge s.length w.length with hw | hw
  · skip
    have hw2 : ((s.length : Int) < (w.length : Int)) = True := by simp; omega
    refine AWp.rs fun K3 hK3 => ?_
    try simp only [go_sem, hw2, decide_true, Bool.not_true, Bool.false_eq_true, false_imp_iff, true_and]
    refine DW.skipc rfl rfl ?_
    try simp only [go_sem, Bool.not_true, Bool.false_eq_true, false_imp_iff, true_and]
    refine DW.skipc rfl rfl ?_
    try simp only [go_sem, Bool.not_true, Bool.false_eq_true, false_imp_iff, true_and]
    (repeat (with_reducible refine And.intro ?_ ?_; decide))
    refine hK3 _ _ ?_
    try clear hK3 K3
    refine AWp.mask [true, true, false, false, false, false, false, false, false, false, false, false, false, false, false, false, false, false, true] rfl ?_
    simp only [go_sem]
    refine AWp.cond _ rfl (fun hc0 => ?_) (fun hc0 => ?_)
    · skip
      try simp only [] at hc0
      refine AWp.rs fun K4 hK4 => ?_
      try simp only [go_sem, true_and]
      refine hK4 _ _ ?_
      try clear hK4 K4
      refine AWp.ret ?_
      try simp only [go_sem]
      rw [preR_0 (by rintro ⟨h8, h9⟩; first | omega | (simp [h9] at hc0))]; simp []
    · skip
      exact absurd hc0 (by simp)
  · skip
    have hw2 : ((s.length : Int) < (w.length : Int)) = False := by simp; omega
    refine AWp.rs fun K3 hK3 => ?_
    try simp only [go_sem, hw2, decide_false]
    (repeat (with_reducible refine And.intro ?_ ?_; omega))
    refine DW.pcgr rfl rfl rfl rfl rfl (fun hg => lower_p T _ (by (try simp only [List.length_take]); omega)) (fun hg => by (try simp only [go_sem]) <;> first | exact hg | (exfalso; simp at hg; done) | (simpa using hg) | grind) rfl rfl ?_
    try simp only [go_sem]
    refine DW.pcgr rfl rfl rfl rfl rfl (fun hg => lower_p T _ (by (try simp only [List.length_take]); omega)) (fun hg => by (try simp only [go_sem]) <;> first | exact hg | (exfalso; simp at hg; done) | (simpa using hg) | grind) rfl rfl ?_
    try simp only [go_sem]
    refine hK3 _ _ ?_
    try clear hK3 K3
    refine AWp.mask [true, true, false, false, false, false, false, false, false, false, false, false, false, false, false, false, false, false, true] rfl ?_
    simp only [go_sem]
    refine AWp.cond _ rfl (fun hc0 => ?_) (fun hc0 => ?_)
    · skip
      try simp only [decide_eq_false_iff_not, Bool.not_eq_true'] at hc0
      refine AWp.rs fun K5 hK5 => ?_
      try simp only [go_sem]
      refine hK5 _ _ ?_
      try clear hK5 K5
      refine AWp.ret ?_
      try simp only [go_sem]
      rw [preR_0 (by rintro ⟨h8, h9⟩; first | omega | (simp [h9] at hc0))]; simp []
    · skip
      try simp only [decide_eq_true_eq, Bool.not_eq_false'] at hc0
      refine AWp.skip ?_
      refine thenQ_n ?_
      refine hK2 _ _ ?_
      try clear hK2 K2
      refine AWp.ds true [0, 1, 2, 3, 4, 5] rfl (by kernel_rfl) fun K6 hK6 => ?_
      try simp only [go_sem]
      (repeat (with_reducible refine And.intro ?_ ?_; omega))
      refine hK6 _ _ ?_
      try clear hK6 K6
      refine AWp.mask [false, false, true, true] rfl ?_
      simp only [go_sem]
      refine AWp.ret ?_
      try simp only [go_sem]
      rw [preR_1 hw (by simpa using hc0)]; simp []
end Go.Proofs.YthpkjmbdjnelfaaDoor

namespace Go.Proofs.YthpkjmbdjnelfaaDoor
set_option linter.unusedSimpArgs false
set_option linter.unusedVariables false
/-- a session -/
structure Sn where
  step : Int
  fl : Tx
  fd : Tx
  tos : List Ad
  text : Tx
  large : Bool
def snA (s : Sn) : List AV := [.d (.int .i64 s.step), .d (.str s.fl), .d (.str s.fd), .d (.slc 2 (adsD s.tos)), .d (.str s.text), .d (.bool s.large)]
def TosOk (l : List Ad) : Prop := ∀ (j : Nat) (h : j < l.length), adrE (l[j]).1 (l[j]).2 = 0 ∧ ¬ l[j] ∈ l.take j
structure OkS (s : Sn) : Prop where
  lo : 0 ≤ s.step
  hi : s.step ≤ 5
  len : s.tos.length ≤ 5
  size : s.text.length ≤ 2000
  fr1 : 2 ≤ s.step ∧ s.step ≤ 4 → adrE s.fl s.fd = 0
  fr0 : ¬ (2 ≤ s.step ∧ s.step ≤ 4) → s.fl = [] ∧ s.fd = []
  to1 : 3 ≤ s.step ∧ s.step ≤ 4 → 0 < s.tos.length ∧ TosOk s.tos
  to0 : ¬ (3 ≤ s.step ∧ s.step ≤ 4) → s.tos.length = 0
  tx : ¬ s.step = 4 → s.text = [] ∧ s.large = false
noncomputable def sesV (s : Sn) : Int := @ite _ (OkS s) (Classical.propDecidable _) 0 11
theorem sesV_ok {s : Sn} (h : OkS s) : sesV s = 0 := @if_pos _ (Classical.propDecidable _) h _ _ _
theorem sesV_no {s : Sn} (h : ¬ OkS s) : sesV s = 11 := @if_neg _ (Classical.propDecidable _) h _ _ _
structure SnB (s : Sn) : Prop where
  a : s.fl.length ≤ 1048576
  b : s.fd.length ≤ 1048576
  c : s.tos.length ≤ 1048576
  d : ∀ x ∈ s.tos, x.1.length ≤ 1048576 ∧ x.2.length ≤ 1048576
  e : s.text.length ≤ 1048576
def TosI (l : List Ad) (k : Nat) : Prop := ∀ (j : Nat) (h : j < l.length), j < k → adrE (l[j]).1 (l[j]).2 = 0 ∧ ¬ l[j] ∈ l.take j
theorem TosI.s {l : List Ad} {k : Nat} (h : k < l.length) (H : TosI l k) (h1 : adrE (l[k]).1 (l[k]).2 = 0) (h2 : ¬ l[k] ∈ l.take k) : TosI l (k + 1) := fun j hj hk => by
  rcases Nat.lt_or_ge j k with h9 | h9
  · exact H j hj h9
  · obtain rfl : j = k := by omega
    exact ⟨h1, h2⟩
theorem TosI.e {l : List Ad} {k : Nat} (H : TosI l k) (h : l.length ≤ k) : TosOk l := fun j hj => H j hj (by omega)
/-- the place of a value among values; -1: it is not there -/
def ixG {α : Type} [DecidableEq α] : List α → α → Int
  | [], _ => -1
  | x :: r, t => if t = x then 0 else if ixG r t < 0 then -1 else ixG r t + 1
section
variable {α : Type} [DecidableEq α]
theorem ixG_ge : ∀ (l : List α) (t : α), -1 ≤ ixG l t
  | [], _ => by simp [ixG]
  | x :: r, t => by have := ixG_ge r t; unfold ixG; split; omega; split <;> omega
theorem ixG_mem : ∀ (l : List α) (t : α), 0 ≤ ixG l t ↔ t ∈ l
  | [], t => by simp [ixG]
  | x :: r, t => by
    have h1 := ixG_mem r t
    have h2 := ixG_ge r t
    unfold ixG
    rw [List.mem_cons]
    split
    · rename_i h; simp [h]
    · rename_i h
      split
      · rename_i h3; simp [h, ← h1]; omega
      · rename_i h3; simp [h, ← h1]; omega
def ixQ (l : List α) (t : α) (k : Nat) : Prop := ixG l t = if ixG (l.drop k) t < 0 then -1 else ixG (l.drop k) t + k
theorem ixQ_0 (l : List α) (t : α) : ixQ l t 0 := by
  have := ixG_ge l t
  unfold ixQ; rw [List.drop_zero]; split <;> omega
theorem ixQ_t {l : List α} {t : α} {k : Nat} (h : k < l.length) (hR : ixQ l t k) (he : t = l[k]'h) : ixG l t = k := by
  unfold ixQ at hR
  rw [List.drop_eq_getElem_cons h, ixG, if_pos he] at hR
  rw [hR]; simp
theorem ixQ_f {l : List α} {t : α} {k : Nat} (h : k < l.length) (hR : ixQ l t k) (he : ¬ t = l[k]'h) : ixQ l t (k + 1) := by
  unfold ixQ at hR ⊢
  rw [List.drop_eq_getElem_cons h, ixG, if_neg he] at hR
  have := ixG_ge (l.drop (k + 1)) t
  rw [hR]
  split <;> split <;> omega
theorem ixQ_end {l : List α} {t : α} {k : Nat} (h : l.length ≤ k) (hR : ixQ l t k) : ixG l t = -1 := by
  unfold ixQ at hR
  rw [List.drop_eq_nil_of_le h] at hR
  simpa [ixG] using hR
end
theorem ad_ext {a c : Ad} : (a.1 = c.1 ∧ a.2 = c.2) ↔ a = c := ⟨fun h => Prod.ext h.1 h.2, fun h => by rw [h]; exact ⟨rfl, rfl⟩⟩
set_option maxRecDepth 4000 in
set_option maxHeartbeats 1000000 in
theorem IndexA_c (T : Tbl) (l : List Ad) (a : Ad) (hl : l.length ≤ 1048576) : PC Tryd.prog T 122 [.d (.slc 2 (adsD l)), .agg [.d (.str a.1), .d (.str a.2)]] (.d (.int .i64 (ixG l a))) := by
  refine ⟨Tryd.call122, PCall.enterS Tryd.func122 rfl Tryd.ntmps122 rfl fun hb => ?_⟩
  simp only [go_sem, Tryd.results122]
  refine AWp.rs fun K1 hK1 => ?_
  try simp only [go_sem]
  intro b3
  first | intro fb3 | have fb3 := True.intro
  try simp only [freshL] at fb3
  refine hK1 _ _ ?_
  try clear hK1 K1
  refine AWp.seq fun K2 hK2 => ?_
  refine AWp.rs fun K3 hK3 => ?_
  try simp only [go_sem]
  refine hK3 _ _ ?_
  try clear hK3 K3
  refine AWp.block ?_
  refine AWp.mask [true, false, true, false, false, true, true] rfl ?_
  simp only [go_sem]
  refine AWp.loopS [true, true, true] [false, false, false, true] (fun n lc hc => ∃ (k : Nat), n = l.length - k ∧ EqS lc [(8, .d (.int .i64 (k : Nat)))] ∧ EqS hc (⟨[(b3, ⟨2, 1, [[.d (.str a.1), .d (.str a.2)]]⟩)], []⟩) ∧ (k ≤ l.length) ∧ (ixQ l a k)) rfl ?_ ?_
  · refine ⟨_, 0, rfl, ?_, ?_, ?_, ?_⟩
    · (try simp only [go_sem]) <;> first | exact ⟨rfl⟩ | (constructor; simp; done)
    · (try simp only [go_sem, icast, adD, fb3]) <;> first | exact ⟨rfl⟩ | (constructor; simp; done)
    all_goals (first | omega | exact ixQ_0 _ _)
  · rintro _ _ _ ⟨k, rfl, ⟨rfl⟩, ⟨rfl⟩, h1, h2⟩
    simp only [go_sem]
    refine AWp.rs fun K4 hK4 => ?_
    try simp only [go_sem]
    refine hK4 _ _ ?_
    try clear hK4 K4
    refine AWp.seq fun K5 hK5 => ?_
    refine AWp.cond _ rfl (fun hc0 => ?_) (fun hc0 => ?_)
    · skip
      try simp only [decide_eq_true_eq] at hc0
      have hlt : k < l.length := by omega
      have hki : (k : Int) < (l.length : Int) := by omega
      refine AWp.skip ?_
      refine thenQ_n ?_
      refine hK5 _ _ ?_
      try clear hK5 K5
      refine AWp.seq fun K6 hK6 => ?_
      refine AWp.block ?_
      refine AWp.rs fun K7 hK7 => ?_
      try simp only [go_sem, hki]
      refine hK7 _ _ ?_
      try clear hK7 K7
      refine AWp.ds true [0, 1, 2, 3, 4, 5] rfl (by kernel_rfl) fun K8 hK8 => ?_
      try simp only [go_sem, adD, adsD_get l k _ hlt, hki]
      refine hK8 _ _ ?_
      try clear hK8 K8
      refine AWp.mask [true, true, true, true, true, false, false, false, false, false, false, false, true] rfl ?_
      simp only [go_sem]
      refine AWp.cond _ rfl (fun hc1 => ?_) (fun hc1 => ?_)
      · skip
        try simp only [decide_eq_true_eq, Bool.and_eq_true] at hc1
        refine AWp.rs fun K9 hK9 => ?_
        try simp only [go_sem]
        refine hK9 _ _ ?_
        try clear hK9 K9
        refine AWp.mask [false, false, true] rfl ?_
        simp only [go_sem]
        refine AWp.ret ?_
        try simp only [go_sem]
        rw [ixQ_t hlt h2 (ad_ext.1 hc1)]; try simp [LeA, LeD]
      · skip
        try simp only [decide_eq_false_iff_not, Bool.and_eq_false_iff] at hc1
        refine AWp.skip ?_
        refine blkQ_n (thenQ_n ?_)
        refine hK6 _ _ ?_
        try clear hK6 K6
        refine AWp.rk fun K10 hK10 => ?_
        try simp only [go_sem, icast]
        (repeat (with_reducible refine And.intro ?_ ?_; omega))
        refine hK10 _ _ ?_
        try clear hK10 K10
        refine thenQ_n ?_
        refine EndS.mk [true, true, false, true] [false, false, false, false, true] [] [] [b3] [] rfl ?_ ?_
        · (try simp only [go_sem]) <;> try rfl
        refine .e ⟨_, ?_, k + 1, rfl, ?_, ?_, ?_, ?_⟩
        · first | omega | (simp; omega) | (grind)
        · (try simp only [go_sem]) <;> first | exact ⟨rfl⟩ | (constructor; simp; done)
        · (try simp only [go_sem]) <;> first | exact ⟨rfl⟩ | (constructor; simp; done)
        · omega
        · exact ixQ_f hlt h2 (fun h9 => by rw [h9] at hc1; simp at hc1)
    · skip
      try simp only [decide_eq_false_iff_not, Int.not_lt] at hc0
      refine AWp.exit ?_
      refine thenQ_e (thenQ_e (blkQ_e (thenQ_n ?_)))
      refine hK2 _ _ ?_
      try clear hK2 K2
      refine AWp.mask [] rfl ?_
      simp only [go_sem]
      refine AWp.rs fun K11 hK11 => ?_
      try simp only [go_sem]
      refine hK11 _ _ ?_
      try clear hK11 K11
      refine AWp.ret ?_
      try simp only [go_sem]
      rw [ixQ_end (by omega) h2]; try simp [LeA, LeD]
set_option maxRecDepth 4000 in
set_option maxHeartbeats 1000000 in
theorem ContA_c (T : Tbl) (l : List Ad) (a : Ad) (hl : l.length ≤ 1048576) : PC Tryd.prog T 57 [.d (.slc 2 (adsD l)), .agg [.d (.str a.1), .d (.str a.2)]] (.d (.bool (decide (a ∈ l)))) := by
  refine ⟨Tryd.call57, PCall.enterS Tryd.func57 rfl Tryd.ntmps57 rfl fun hb => ?_⟩
  simp only [go_sem, Tryd.results57]
  refine AWp.rs fun K1 hK1 => ?_
  try simp only [go_sem]
  intro b3
  first | intro fb3 | have fb3 := True.intro
  try simp only [freshL] at fb3
  refine hK1 _ _ ?_
  try clear hK1 K1
  refine AWp.rs fun K2 hK2 => ?_
  try simp only [go_sem]
  refine DW.pcr rfl rfl rfl rfl (IndexA_c T l a hl) rfl rfl ?_
  try simp only [go_sem]
  refine hK2 _ _ ?_
  try clear hK2 K2
  refine AWp.mask [false, false, false, true] rfl ?_
  simp only [go_sem]
  refine AWp.ret ?_
  try simp only [go_sem]
  simp [ixG_mem]
set_option maxRecDepth 4000 in
set_option maxHeartbeats 1000000 in
theorem IndexT_c (T : Tbl) (l : List Tx) (t : Tx) (hl : l.length ≤ 1048576) : PC Tryd.prog T 99 [.d (.slc 1 (l.map strD)), .d (.str t)] (.d (.int .i64 (ixG l t))) := by
  refine ⟨Tryd.call99, PCall.enterS Tryd.func99 rfl Tryd.ntmps99 rfl fun hb => ?_⟩
  simp only [go_sem, Tryd.results99]
  refine AWp.rs fun K1 hK1 => ?_
  try simp only [go_sem]
  refine hK1 _ _ ?_
  try clear hK1 K1
  refine AWp.seq fun K2 hK2 => ?_
  refine AWp.rs fun K3 hK3 => ?_
  try simp only [go_sem]
  refine hK3 _ _ ?_
  try clear hK3 K3
  refine AWp.block ?_
  refine AWp.mask [true, true, false, false, true, true] rfl ?_
  simp only [go_sem]
  refine AWp.loopS [true, true, true] [false, false, false, true] (fun n lc hc => ∃ (k : Nat), n = l.length - k ∧ EqS lc [(8, .d (.int .i64 (k : Nat)))] ∧ EqS hc (⟨[], []⟩) ∧ (k ≤ l.length) ∧ (ixQ l t k)) rfl ?_ ?_
  · refine ⟨_, 0, rfl, ?_, ?_, ?_, ?_⟩
    · (try simp only [go_sem]) <;> first | exact ⟨rfl⟩ | (constructor; simp; done)
    · (try simp only [go_sem, icast]) <;> first | exact ⟨rfl⟩ | (constructor; simp; done)
    all_goals (first | omega | exact ixQ_0 _ _)
  · rintro _ _ _ ⟨k, rfl, ⟨rfl⟩, ⟨rfl⟩, h1, h2⟩
    simp only [go_sem]
    refine AWp.rs fun K4 hK4 => ?_
    try simp only [go_sem]
    refine hK4 _ _ ?_
    try clear hK4 K4
    refine AWp.seq fun K5 hK5 => ?_
    refine AWp.cond _ rfl (fun hc0 => ?_) (fun hc0 => ?_)
    · skip
      try simp only [decide_eq_true_eq] at hc0
      have hlt : k < l.length := by omega
      have hki : (k : Int) < (l.length : Int) := by omega
      refine AWp.skip ?_
      refine thenQ_n ?_
      refine hK5 _ _ ?_
      try clear hK5 K5
      refine AWp.seq fun K6 hK6 => ?_
      refine AWp.block ?_
      refine AWp.rs fun K7 hK7 => ?_
      try simp only [go_sem, hki]
      refine hK7 _ _ ?_
      try clear hK7 K7
      refine AWp.rs fun K8 hK8 => ?_
      try simp only [go_sem, map_getD strD l k _ hlt, strD, hki]
      refine hK8 _ _ ?_
      try clear hK8 K8
      refine AWp.mask [true, true, true, true, true, false, false, false, false, false, false, false, true] rfl ?_
      simp only [go_sem]
      refine AWp.cond _ rfl (fun hc1 => ?_) (fun hc1 => ?_)
      · skip
        try simp only [decide_eq_true_eq] at hc1
        refine AWp.rs fun K9 hK9 => ?_
        try simp only [go_sem]
        refine hK9 _ _ ?_
        try clear hK9 K9
        refine AWp.mask [false, false, true] rfl ?_
        simp only [go_sem]
        refine AWp.ret ?_
        try simp only [go_sem]
        rw [ixQ_t hlt h2 hc1]; try simp [LeA, LeD]
      · skip
        try simp only [decide_eq_false_iff_not] at hc1
        refine AWp.skip ?_
        refine blkQ_n (thenQ_n ?_)
        refine hK6 _ _ ?_
        try clear hK6 K6
        refine AWp.rk fun K10 hK10 => ?_
        try simp only [go_sem, icast]
        (repeat (with_reducible refine And.intro ?_ ?_; omega))
        refine hK10 _ _ ?_
        try clear hK10 K10
        refine thenQ_n ?_
        refine EndS.mkr [true, true, false, true] [false, false, false, false, true] rfl ?_ ?_
        · (try simp only [go_sem]) <;> try rfl
        refine .e ⟨_, ?_, k + 1, rfl, ?_, ?_, ?_, ?_⟩
        · first | omega | (simp; omega) | (grind)
        · (try simp only [go_sem]) <;> first | exact ⟨rfl⟩ | (constructor; simp; done)
        · (try simp only [go_sem, icast, map_getD strD l k _ hlt, strD, hki]) <;> first | exact ⟨rfl⟩ | (constructor; simp; done)
        · omega
        · exact ixQ_f hlt h2 hc1
    · skip
      try simp only [decide_eq_false_iff_not, Int.not_lt] at hc0
      refine AWp.exit ?_
      refine thenQ_e (thenQ_e (blkQ_e (thenQ_n ?_)))
      refine hK2 _ _ ?_
      try clear hK2 K2
      refine AWp.mask [] rfl ?_
      simp only [go_sem]
      refine AWp.rs fun K11 hK11 => ?_
      try simp only [go_sem]
      refine hK11 _ _ ?_
      try clear hK11 K11
      refine AWp.ret ?_
      try simp only [go_sem]
      rw [ixQ_end (by omega) h2]; try simp [LeA, LeD]
set_option maxRecDepth 4000 in
set_option maxHeartbeats 1000000 in
theorem ContT_c (T : Tbl) (l : List Tx) (t : Tx) (hl : l.length ≤ 1048576) : PC Tryd.prog T 48 [.d (.slc 1 (l.map strD)), .d (.str t)] (.d (.bool (decide (t ∈ l)))) := by
  refine ⟨Tryd.call48, PCall.enterS Tryd.func48 rfl Tryd.ntmps48 rfl fun hb => ?_⟩
  simp only [go_sem, Tryd.results48]
  refine AWp.rs fun K1 hK1 => ?_
  try simp only [go_sem]
  refine hK1 _ _ ?_
  try clear hK1 K1
  refine AWp.rs fun K2 hK2 => ?_
  try simp only [go_sem]
  refine DW.pcr rfl rfl rfl rfl (IndexT_c T l t hl) rfl rfl ?_
  try simp only [go_sem]
  refine hK2 _ _ ?_
  try clear hK2 K2
  refine AWp.mask [false, false, true] rfl ?_
  simp only [go_sem]
  refine AWp.ret ?_
  try simp only [go_sem]
  simp [ixG_mem]
def InI {α : Type} (l : List α) (a : α) (k : Nat) : Prop := ∀ (j : Nat) (h : j < l.length), j < k → ¬ l[j] = a
theorem InI.s {α : Type} {l : List α} {a : α} {k : Nat} (h : k < l.length) (H : InI l a k) (hc : ¬ l[k] = a) : InI l a (k + 1) := fun j hj hk => by
  rcases Nat.lt_or_ge j k with h9 | h9
  · exact H j hj h9
  · obtain rfl : j = k := by omega
    exact hc
theorem InI.e {α : Type} {l : List α} {a : α} {k : Nat} (H : InI l a k) (h : l.length ≤ k) : ¬ a ∈ l := fun h9 => by
  obtain ⟨i, h8, h7⟩ := List.mem_iff_getElem.1 h9
  exact H i h8 (by omega) h7
set_option maxRecDepth 4000 in
set_option maxHeartbeats 1000000 in
theorem known_c (T : Tbl) (l : List Tx) (t : Tx) (hl : l.length ≤ 1048576) : PC Tryd.prog T 68 [.d (.slc 1 (l.map strD)), .d (.str t)] (.d (.bool (decide (t ∈ l)))) := by
  refine ⟨Tryd.call68, PCall.enterS Tryd.func68 rfl Tryd.ntmps68 rfl fun hb => ?_⟩
  simp only [go_sem, Tryd.results68]
  refine AWp.rs fun K1 hK1 => ?_
  try simp only [go_sem]
  refine hK1 _ _ ?_
  try clear hK1 K1
  refine AWp.seq fun K2 hK2 => ?_
  refine AWp.rs fun K3 hK3 => ?_
  try simp only [go_sem]
  refine hK3 _ _ ?_
  try clear hK3 K3
  refine AWp.block ?_
  refine AWp.mask [true, true, false, true] rfl ?_
  simp only [go_sem]
  refine AWp.loopS [true, true] [false, false, true] (fun n lc hc => ∃ (k : Nat), n = l.length - k ∧ EqS lc [(5, .d (.int .i64 (k : Nat)))] ∧ EqS hc (⟨[], []⟩) ∧ (k ≤ l.length) ∧ (InI l t k)) rfl ?_ ?_
  · refine ⟨_, 0, rfl, ?_, ?_, ?_, ?_⟩
    · (try simp only [go_sem]) <;> first | exact ⟨rfl⟩ | (constructor; simp; done)
    · (try simp only [go_sem, icast]) <;> first | exact ⟨rfl⟩ | (constructor; simp; done)
    all_goals (first | omega | exact fun j h h9 => absurd h9 (by omega))
  · rintro _ _ _ ⟨k, rfl, ⟨rfl⟩, ⟨rfl⟩, h1, h2⟩
    simp only [go_sem]
    refine AWp.seq fun K4 hK4 => ?_
    refine AWp.rs fun K5 hK5 => ?_
    try simp only [go_sem]
    refine hK5 _ _ ?_
    try clear hK5 K5
    refine AWp.cond _ rfl (fun hc0 => ?_) (fun hc0 => ?_)
    · skip
      try simp only [decide_eq_true_eq] at hc0
      have hlt : k < l.length := by omega
      have hki : (k : Int) < (l.length : Int) := by omega
      refine AWp.skip ?_
      refine thenQ_n ?_
      refine hK4 _ _ ?_
      try clear hK4 K4
      refine AWp.mask [true, true, true] rfl ?_
      simp only [go_sem]
      refine AWp.seq fun K6 hK6 => ?_
      refine AWp.block ?_
      refine AWp.rs fun K7 hK7 => ?_
      try simp only [go_sem, map_getD strD l k _ hlt, strD, hki]
      refine hK7 _ _ ?_
      try clear hK7 K7
      refine AWp.mask [true, true, true, false, false, false, false, false, true] rfl ?_
      simp only [go_sem]
      refine AWp.cond _ rfl (fun hc1 => ?_) (fun hc1 => ?_)
      · skip
        try simp only [decide_eq_true_eq] at hc1
        refine AWp.rs fun K8 hK8 => ?_
        try simp only [go_sem]
        refine hK8 _ _ ?_
        try clear hK8 K8
        refine AWp.mask [false, false, true] rfl ?_
        simp only [go_sem]
        refine AWp.ret ?_
        try simp only [go_sem]
        have hm : t ∈ l := hc1 ▸ List.getElem_mem hlt
        simp [hm]
      · skip
        try simp only [decide_eq_false_iff_not] at hc1
        refine AWp.skip ?_
        refine blkQ_n (thenQ_n ?_)
        refine hK6 _ _ ?_
        try clear hK6 K6
        refine AWp.rk fun K9 hK9 => ?_
        try simp only [go_sem, icast]
        (repeat (with_reducible refine And.intro ?_ ?_; omega))
        refine hK9 _ _ ?_
        try clear hK9 K9
        refine thenQ_n ?_
        refine EndS.mkr [true, true] [false, false, true] rfl ?_ ?_
        · (try simp only [go_sem]) <;> try rfl
        refine .e ⟨_, ?_, k + 1, rfl, ?_, ?_, ?_, ?_⟩
        · first | omega | (simp; omega) | (grind)
        · (try simp only [go_sem]) <;> first | exact ⟨rfl⟩ | (constructor; simp; done)
        · (try simp only [go_sem, icast, map_getD strD l k _ hlt, strD, hki]) <;> first | exact ⟨rfl⟩ | (constructor; simp; done)
        · omega
        · exact InI.s hlt h2 hc1
    · skip
      try simp only [decide_eq_false_iff_not, Int.not_lt] at hc0
      refine AWp.exit ?_
      refine thenQ_e (thenQ_e (blkQ_e (thenQ_n ?_)))
      refine hK2 _ _ ?_
      try clear hK2 K2
      refine AWp.mask [] rfl ?_
      simp only [go_sem]
      refine AWp.rs fun K10 hK10 => ?_
      try simp only [go_sem]
      refine hK10 _ _ ?_
      try clear hK10 K10
      refine AWp.ret ?_
      try simp only [go_sem]
      have hm := h2.e (by omega)
      simp [hm]
set_option maxRecDepth 4000 in
set_option maxHeartbeats 1000000 in
theorem addrIn_c (T : Tbl) (l : List Ad) (a : Ad) (hl : l.length ≤ 1048576) : PC Tryd.prog T 65 [.d (.slc 2 (adsD l)), .agg [.d (.str a.1), .d (.str a.2)]] (.d (.bool (decide (a ∈ l)))) := by
  refine ⟨Tryd.call65, PCall.enterS Tryd.func65 rfl Tryd.ntmps65 rfl fun hb => ?_⟩
  simp only [go_sem, Tryd.results65]
  refine AWp.rs fun K1 hK1 => ?_
  try simp only [go_sem]
  intro b3
  first | intro fb3 | have fb3 := True.intro
  try simp only [freshL] at fb3
  refine hK1 _ _ ?_
  try clear hK1 K1
  refine AWp.seq fun K2 hK2 => ?_
  refine AWp.rs fun K3 hK3 => ?_
  try simp only [go_sem]
  refine hK3 _ _ ?_
  try clear hK3 K3
  refine AWp.block ?_
  refine AWp.mask [true, false, true, false, true] rfl ?_
  simp only [go_sem]
  refine AWp.loopS [true, true] [false, false, true] (fun n lc hc => ∃ (k : Nat), n = l.length - k ∧ EqS lc [(5, .d (.int .i64 (k : Nat)))] ∧ EqS hc (⟨[(b3, ⟨2, 1, [[.d (.str a.1), .d (.str a.2)]]⟩)], []⟩) ∧ (k ≤ l.length) ∧ (InI l a k)) rfl ?_ ?_
  · refine ⟨_, 0, rfl, ?_, ?_, ?_, ?_⟩
    · (try simp only [go_sem]) <;> first | exact ⟨rfl⟩ | (constructor; simp; done)
    · (try simp only [go_sem, icast, adD, fb3]) <;> first | exact ⟨rfl⟩ | (constructor; simp; done)
    all_goals (first | omega | exact fun j h h9 => absurd h9 (by omega))
  · rintro _ _ _ ⟨k, rfl, ⟨rfl⟩, ⟨rfl⟩, h1, h2⟩
    simp only [go_sem]
    refine AWp.seq fun K4 hK4 => ?_
    refine AWp.rs fun K5 hK5 => ?_
    try simp only [go_sem]
    refine hK5 _ _ ?_
    try clear hK5 K5
    refine AWp.cond _ rfl (fun hc0 => ?_) (fun hc0 => ?_)
    · skip
      try simp only [decide_eq_true_eq] at hc0
      have hlt : k < l.length := by omega
      have hki : (k : Int) < (l.length : Int) := by omega
      refine AWp.skip ?_
      refine thenQ_n ?_
      refine hK4 _ _ ?_
      try clear hK4 K4
      refine AWp.mask [true, true, true] rfl ?_
      simp only [go_sem]
      refine AWp.seq fun K6 hK6 => ?_
      refine AWp.block ?_
      refine AWp.ds true [0, 1, 2, 3, 4, 5] rfl (by kernel_rfl) fun K7 hK7 => ?_
      try simp only [go_sem, adD, adsD_get l k _ hlt, hki]
      refine hK7 _ _ ?_
      try clear hK7 K7
      refine AWp.mask [true, true, true, false, false, false, false, false, true] rfl ?_
      simp only [go_sem]
      refine AWp.cond _ rfl (fun hc1 => ?_) (fun hc1 => ?_)
      · skip
        try simp only [decide_eq_true_eq, Bool.and_eq_true] at hc1
        refine AWp.rs fun K8 hK8 => ?_
        try simp only [go_sem]
        refine hK8 _ _ ?_
        try clear hK8 K8
        refine AWp.mask [false, false, true] rfl ?_
        simp only [go_sem]
        refine AWp.ret ?_
        try simp only [go_sem]
        have hm : a ∈ l := (ad_ext.1 hc1) ▸ List.getElem_mem hlt
        simp [hm]
      · skip
        try simp only [decide_eq_false_iff_not, Bool.and_eq_false_iff] at hc1
        refine AWp.skip ?_
        refine blkQ_n (thenQ_n ?_)
        refine hK6 _ _ ?_
        try clear hK6 K6
        refine AWp.rk fun K9 hK9 => ?_
        try simp only [go_sem, icast]
        (repeat (with_reducible refine And.intro ?_ ?_; omega))
        refine hK9 _ _ ?_
        try clear hK9 K9
        refine thenQ_n ?_
        refine EndS.mk [true, true] [false, false, true] [] [] [b3] [] rfl ?_ ?_
        · (try simp only [go_sem]) <;> try rfl
        refine .e ⟨_, ?_, k + 1, rfl, ?_, ?_, ?_, ?_⟩
        · first | omega | (simp; omega) | (grind)
        · (try simp only [go_sem]) <;> first | exact ⟨rfl⟩ | (constructor; simp; done)
        · (try simp only [go_sem]) <;> first | exact ⟨rfl⟩ | (constructor; simp; done)
        · omega
        · exact InI.s hlt h2 (fun h9 => by rw [h9] at hc1; simp at hc1)
    · skip
      try simp only [decide_eq_false_iff_not, Int.not_lt] at hc0
      refine AWp.exit ?_
      refine thenQ_e (thenQ_e (blkQ_e (thenQ_n ?_)))
      refine hK2 _ _ ?_
      try clear hK2 K2
      refine AWp.mask [] rfl ?_
      simp only [go_sem]
      refine AWp.rs fun K10 hK10 => ?_
      try simp only [go_sem]
      refine hK10 _ _ ?_
      try clear hK10 K10
      refine AWp.ret ?_
      try simp only [go_sem]
      have hm := h2.e (by omega)
      simp [hm]
end Go.Proofs.YthpkjmbdjnelfaaDoor

namespace Go.Proofs.YthpkjmbdjnelfaaDoor
set_option linter.unusedSimpArgs false
set_option linter.unusedVariables false
theorem adsD_take (l : List Ad) (k : Nat) : (adsD l).take k = adsD (l.take k) := by simp [adsD, List.map_take]
set_option maxRecDepth 4000 in
set_option maxHeartbeats 1000000 in
theorem lmCheck_c (T : Tbl) (hL : LibT T) (s : Sn) (hB : SnB s) : PC Tryd.prog T 26 [.agg [.d (.int .i64 s.step), .d (.str s.fl), .d (.str s.fd), .d (.slc 2 (adsD s.tos)), .d (.str s.text), .d (.bool s.large)]] (.d (.int .i64 (sesV s))) := by
  refine ⟨Tryd.call26, PCall.enterS Tryd.func26 rfl Tryd.ntmps26 rfl fun hb => ?_⟩
  obtain ⟨z1, z2, z3, z4, z5⟩ := hB
  simp only [go_sem, Tryd.results26]
  refine AWp.rs fun K1 hK1 => ?_
  try simp only [go_sem]
  intro b1
  first | intro fb1 | have fb1 := True.intro
  try simp only [freshL] at fb1
  refine hK1 _ _ ?_
  try clear hK1 K1
  refine AWp.seq fun K2 hK2 => ?_
  refine AWp.rs fun K3 hK3 => ?_
  try simp only [go_sem]
  (repeat (with_reducible refine And.intro ?_ ?_; (exact nfB)))
  refine hK3 _ _ ?_
  try clear hK3 K3
  refine AWp.mask [false, true, false, false, false, false, false, false, false, false, false, false, false, false, false, false, false, false, false, false, false, false, true] rfl ?_
  simp only [go_sem]
  refine AWp.cond _ rfl (fun hc0 => ?_) (fun hc0 => ?_)
  · skip
    try simp only [decide_eq_true_eq, Bool.or_eq_true] at hc0
    refine AWp.rs fun K4 hK4 => ?_
    try simp only [go_sem]
    refine hK4 _ _ ?_
    try clear hK4 K4
    refine AWp.ret ?_
    try simp only [go_sem]
    rw [sesV_no (by rintro ⟨q1, q2, q3, q4, q5, q6, q7, q8, q9⟩; omega)]; try simp [LeA, LeD]
  · skip
    try simp only [decide_eq_false_iff_not, Bool.or_eq_false_iff, Int.not_lt] at hc0
    have a1 : 0 ≤ s.step ∧ s.step ≤ 5 ∧ s.tos.length ≤ 5 ∧ s.text.length ≤ 2000 := by omega
    refine AWp.skip ?_
    refine thenQ_n ?_
    refine hK2 _ _ ?_
    try clear hK2 K2
    refine AWp.rs fun K5 hK5 => ?_
    try simp only [go_sem]
    intro b3
    first | intro fb3 | have fb3 := True.intro
    try simp only [freshL] at fb3
    refine hK5 _ _ ?_
    try clear hK5 K5
    refine AWp.mask [true, true] rfl ?_
    simp only [go_sem]
    refine AWp.seq fun K6 hK6 => ?_
    refine AWp.rs fun K7 hK7 => ?_
    try simp only [go_sem, fb3]
    refine hK7 _ _ ?_
    try clear hK7 K7
    refine AWp.mask [true, true, false, false, false, false, false, false, false, true] rfl ?_
    simp only [go_sem]
    refine AWp.cond _ rfl (fun hc1 => ?_) (fun hc1 => ?_)
    · skip
      try simp only [decide_eq_true_eq, Bool.and_eq_true] at hc1
      have a2 : 2 ≤ s.step ∧ s.step ≤ 4 := hc1
      refine AWp.seq fun K8 hK8 => ?_
      refine AWp.rs fun K9 hK9 => ?_
      try simp only [go_sem, fb3]
      refine DW.pcr rfl rfl rfl rfl (whoCheck_p T hL _ _ z1 z2) rfl rfl ?_
      try simp only [go_sem]
      refine hK9 _ _ ?_
      try clear hK9 K9
      refine AWp.mask [true, true, false, false, false, false, true] rfl ?_
      simp only [go_sem]
      refine AWp.cond _ rfl (fun hc2 => ?_) (fun hc2 => ?_)
      · skip
        try simp only [decide_eq_false_iff_not, Bool.not_eq_true'] at hc2
        refine AWp.rs fun K10 hK10 => ?_
        try simp only [go_sem]
        refine hK10 _ _ ?_
        try clear hK10 K10
        refine AWp.ret ?_
        try simp only [go_sem]
        rw [sesV_no (by rintro ⟨q1, q2, q3, q4, q5, q6, q7, q8, q9⟩; exact hc2 (q5 a2))]; try simp [LeA, LeD]
      · skip
        try simp only [decide_eq_true_eq, Bool.not_eq_false'] at hc2
        have a3 : adrE s.fl s.fd = 0 := by omega
        refine AWp.skip ?_
        refine thenQ_n ?_
        refine hK8 _ _ ?_
        try clear hK8 K8
        refine AWp.rk fun K11 hK11 => ?_
        try simp only [go_sem, fb3]
        refine hK11 _ _ ?_
        try clear hK11 K11
        refine thenQ_n ?_
        refine hK6 _ _ ?_
        try clear hK6 K6
        refine AWp.mask [true, true] rfl ?_
        simp only [go_sem]
        refine AWp.seq fun K12 hK12 => ?_
        refine AWp.rs fun K13 hK13 => ?_
        try simp only [go_sem, fb3]
        refine hK13 _ _ ?_
        try clear hK13 K13
        refine AWp.mask [true, true, false, false, false, false, false, false, false, true] rfl ?_
        simp only [go_sem]
        refine AWp.cond _ rfl (fun hc3 => ?_) (fun hc3 => ?_)
        · skip
          try simp only [decide_eq_true_eq, Bool.and_eq_true] at hc3
          have a4 : 3 ≤ s.step ∧ s.step ≤ 4 := hc3
          refine AWp.seq fun K14 hK14 => ?_
          refine AWp.rs fun K15 hK15 => ?_
          try simp only [go_sem, fb3]
          refine hK15 _ _ ?_
          try clear hK15 K15
          refine AWp.block ?_
          refine AWp.mask [true, true, false, false, true, true, true] rfl ?_
          simp only [go_sem]
          refine AWp.loopS [true, true, true, true] [false, false, false, false, true] (fun n lc hc => ∃ (k : Nat), n = s.tos.length - k ∧ EqS lc [(55, .d (.int .i64 (k : Nat)))] ∧ EqS hc (⟨[(b3, ⟨6, 1, [[.d (.int .i64 s.step), .d (.str s.fl), .d (.str s.fd), .nils, .d (.str []), .d (.bool false)]]⟩), (b1, ⟨6, 1, [[.d (.int .i64 s.step), .d (.str s.fl), .d (.str s.fd), .d (.slc 2 (adsD s.tos)), .d (.str s.text), .d (.bool s.large)]]⟩)], []⟩) ∧ (k ≤ s.tos.length) ∧ (TosI s.tos k)) rfl ?_ ?_
          · refine ⟨_, 0, rfl, ?_, ?_, ?_, ?_⟩
            · (try simp only [go_sem]) <;> first | exact ⟨rfl⟩ | (constructor; simp; done)
            · (try simp only [go_sem, icast, adD, adsD_take, fb1, fb3]) <;> first | exact ⟨rfl⟩ | (constructor; simp; done)
            all_goals (first | omega | exact fun j h h9 => absurd h9 (by omega))
          · rintro _ _ _ ⟨k, rfl, ⟨rfl⟩, ⟨rfl⟩, h1, h2⟩
            simp only [go_sem]
            refine AWp.rs fun K16 hK16 => ?_
            try simp only [go_sem]
            refine hK16 _ _ ?_
            try clear hK16 K16
            refine AWp.seq fun K17 hK17 => ?_
            refine AWp.cond _ rfl (fun hc4 => ?_) (fun hc4 => ?_)
            · skip
              try simp only [decide_eq_true_eq] at hc4
              have hlt : k < s.tos.length := by omega
              have hki : (k : Int) < (s.tos.length : Int) := by omega
              obtain ⟨zl, zd⟩ := z4 _ (List.getElem_mem hlt)
              refine AWp.skip ?_
              refine thenQ_n ?_
              refine hK17 _ _ ?_
              try clear hK17 K17
              refine AWp.seq fun K18 hK18 => ?_
              refine AWp.block ?_
              refine AWp.rs fun K19 hK19 => ?_
              try simp only [go_sem, adD, adsD_get s.tos k _ hlt, hki]
              intro b5
              first | intro fb5 | have fb5 := True.intro
              try simp only [freshL] at fb5
              refine hK19 _ _ ?_
              try clear hK19 K19
              refine AWp.mask [true, true, true, true, true, true, true] rfl ?_
              simp only [go_sem]
              refine AWp.ds true [0, 1, 2, 3, 4, 5, 6, 7, 8, 9, 10] rfl (by kernel_rfl) fun K20 hK20 => ?_
              try simp only [go_sem, fb5]
              refine DW.pcr rfl rfl rfl rfl (whoCheck_p T hL _ _ zl zd) rfl rfl ?_
              try simp only [go_sem, adsD_take, fb3, fb5]
              (repeat (with_reducible refine And.intro ?_ ?_; (intro hg; refine ⟨hg, ?_⟩; omega)))
              refine DW.pcgr rfl rfl rfl rfl rfl (fun hg => ContA_c T _ _ (by (try simp only [List.length_take]); omega)) (fun hg => by (try simp only [go_sem]) <;> first | exact hg | (exfalso; simp at hg; done) | (simpa using hg) | grind) rfl rfl ?_
              try simp only [go_sem]
              (repeat (with_reducible refine And.intro ?_ ?_; (exact nfB)))
              refine hK20 _ _ ?_
              try clear hK20 K20
              refine AWp.mask [true, true, false, false, true, true, true, false, false, false, false, false, false, false, false, false, false, true] rfl ?_
              simp only [go_sem]
              refine AWp.cond _ rfl (fun hc5 => ?_) (fun hc5 => ?_)
              · skip
                try simp only [decide_eq_true_eq, decide_eq_false_iff_not, Bool.not_eq_true', Bool.or_eq_true] at hc5
                have hn5 : ¬ adrE (s.tos[k]).1 (s.tos[k]).2 = 0 ∨ s.tos[k] ∈ s.tos.take k := by grind
                refine AWp.rs fun K21 hK21 => ?_
                try simp only [go_sem]
                refine hK21 _ _ ?_
                try clear hK21 K21
                refine AWp.mask [false, true] rfl ?_
                simp only [go_sem]
                refine AWp.ret ?_
                try simp only [go_sem]
                rw [sesV_no (by rintro ⟨q1, q2, q3, q4, q5, q6, q7, q8, q9⟩; have h9 := (q7 a4).2 k hlt; rcases hn5 with h8 | h8; exact h8 h9.1; exact h9.2 h8)]; try simp [LeA, LeD]
              · skip
                try simp only [decide_eq_true_eq, decide_eq_false_iff_not, Bool.not_eq_false', Bool.or_eq_false_iff] at hc5
                have hn4 : adrE (s.tos[k]).1 (s.tos[k]).2 = 0 ∧ ¬ s.tos[k] ∈ s.tos.take k := by grind
                obtain ⟨hn4, hn5⟩ := hn4
                refine AWp.skip ?_
                refine blkQ_n (thenQ_n ?_)
                refine hK18 _ _ ?_
                try clear hK18 K18
                refine AWp.rk fun K22 hK22 => ?_
                try simp only [go_sem, icast]
                (repeat (with_reducible refine And.intro ?_ ?_; omega))
                refine hK22 _ _ ?_
                try clear hK22 K22
                refine thenQ_n ?_
                refine EndS.mk [true, true, true, true] [false, false, false, false, true] [b5] [] [b3, b1] [] rfl ?_ ?_
                · (try simp only [go_sem]) <;> try rfl
                refine .e ⟨_, ?_, k + 1, rfl, ?_, ?_, ?_, ?_⟩
                · first | omega | (simp; omega) | (grind)
                · (try simp only [go_sem]) <;> first | exact ⟨rfl⟩ | (constructor; simp; done)
                · (try simp only [go_sem, fb3, fb5]) <;> first | exact ⟨rfl⟩ | (constructor; simp; done)
                · omega
                · exact h2.s hlt (by omega) (by simpa using hn5)
            · skip
              try simp only [decide_eq_false_iff_not, Int.not_lt] at hc4
              have a5 := h2.e (by omega)
              refine AWp.exit ?_
              refine thenQ_e (thenQ_e (blkQ_e (thenQ_n ?_)))
              refine hK14 _ _ ?_
              try clear hK14 K14
              refine AWp.mask [true, true] rfl ?_
              simp only [go_sem]
              refine AWp.rs fun K23 hK23 => ?_
              try simp only [go_sem, fb3]
              refine hK23 _ _ ?_
              try clear hK23 K23
              refine AWp.cond _ rfl (fun hc6 => ?_) (fun hc6 => ?_)
              · skip
                try simp only [decide_eq_true_eq] at hc6
                refine AWp.rs fun K24 hK24 => ?_
                try simp only [go_sem]
                refine hK24 _ _ ?_
                try clear hK24 K24
                refine AWp.mask [false, true] rfl ?_
                simp only [go_sem]
                refine AWp.ret ?_
                try simp only [go_sem]
                rw [sesV_no (by rintro ⟨q1, q2, q3, q4, q5, q6, q7, q8, q9⟩; have h9 := (q7 a4).1; omega)]; try simp [LeA, LeD]
              · skip
                try simp only [decide_eq_false_iff_not] at hc6
                have a6 : 0 < s.tos.length := by omega
                refine AWp.skip ?_
                refine thenQ_n ?_
                refine hK12 _ _ ?_
                try clear hK12 K12
                refine AWp.mask [true, true] rfl ?_
                simp only [go_sem]
                refine AWp.seq fun K25 hK25 => ?_
                refine AWp.rs fun K26 hK26 => ?_
                try simp only [go_sem, fb3]
                refine hK26 _ _ ?_
                try clear hK26 K26
                refine AWp.cond _ rfl (fun hc8 => ?_) (fun hc8 => ?_)
                · skip
                  try simp only [decide_eq_true_eq] at hc8
                  refine AWp.dkN true [0, 2] [1, 3] [4, 5, 6] 7 [] rfl (by kernel_rfl) rfl fun K27 hK27 => ?_
                  try simp only [go_sem]
                  refine Exists.intro (fun h' : AH => getO b1 h'.objs = some ⟨6, 1, [[.d (.int .i64 s.step), .d (.str s.fl), .d (.str s.fd), .d (.slc 2 (adsD s.tos)), .d (.str s.text), .d (.bool s.large)]]⟩) (And.intro (by simp [getO, fb3]) ?_)
                  try simp only [go_sem]
                  refine FRN.ld rfl rfl (fun h' m1 => (by first | rfl | (simp only [go_sem, m1]; first | done | rfl | exact ⟨by omega, rfl⟩))) ?_
                  try simp only [go_sem]
                  refine FRN.ld rfl rfl (fun h' m1 => (by first | rfl | (simp only [go_sem, m1]; first | done | rfl | exact ⟨by omega, rfl⟩))) ?_
                  try simp only [go_sem]
                  refine FRN.nil ?_
                  refine lvc_ok _ _ _ ?_
                  try simp only [go_sem, fb3]
                  first | with_reducible refine And.intro (by simp [getO, icast, adD, adsD_take, fb1, fb3]) ?_ | skip
                  refine lvc_ok _ _ _ ?_
                  try simp only [go_sem, fb3]
                  first | with_reducible refine And.intro (by simp [getO, icast, adD, adsD_take, fb1, fb3]) ?_ | skip
                  refine lvc_ok _ _ _ ?_
                  try simp only [go_sem, fb3]
                  first | with_reducible refine And.intro (by simp [getO, icast, adD, adsD_take, fb1, fb3]) ?_ | skip
                  refine lvc_ok _ _ _ ?_
                  try simp only [go_sem, fb3]
                  refine hK27 _ _ ?_
                  try clear hK27 K27
                  refine thenQ_n ?_
                  refine hK25 _ _ ?_
                  try clear hK25 K25
                  refine AWp.mask [true, true] rfl ?_
                  simp only [go_sem]
                  refine AWp.seq fun K28 hK28 => ?_
                  refine AWp.rs fun K29 hK29 => ?_
                  try simp only [go_sem, fb3]
                  (repeat (with_reducible refine And.intro ?_ ?_; decide))
                  refine hK29 _ _ ?_
                  try clear hK29 K29
                  refine AWp.mask [false, false, false, false, false, false, false, false, false, false, false, false, false, false, false, false, false, false, false, false, true] rfl ?_
                  simp only [go_sem]
                  refine AWp.cond _ rfl (fun hc9 => ?_) (fun hc9 => ?_)
                  · skip
                    try simp only [decide_eq_false_iff_not, Bool.not_eq_true', Bool.or_eq_true] at hc9
                    refine AWp.rs fun K30 hK30 => ?_
                    try simp only [go_sem]
                    refine hK30 _ _ ?_
                    try clear hK30 K30
                    refine AWp.ret ?_
                    try simp only [go_sem]
                    rw [sesV_no (by rintro ⟨q1, q2, q3, q4, q5, q6, q7, q8, q9⟩; grind)]; try simp [LeA, LeD]
                  · skip
                    try simp only [decide_eq_true_eq, Bool.not_eq_false', Bool.or_eq_false_iff] at hc9
                    refine AWp.skip ?_
                    refine thenQ_n ?_
                    refine hK28 _ _ ?_
                    try clear hK28 K28
                    refine AWp.rs fun K31 hK31 => ?_
                    try simp only [go_sem]
                    refine hK31 _ _ ?_
                    try clear hK31 K31
                    refine AWp.ret ?_
                    try simp only [go_sem]
                    rw [sesV_ok ⟨a1.1, a1.2.1, a1.2.2.1, a1.2.2.2, by grind, by grind, by grind, by grind, by grind⟩]; try simp [LeA, LeD]
                · skip
                  try simp only [decide_eq_false_iff_not] at hc8
                  refine AWp.skip ?_
                  refine thenQ_n ?_
                  refine hK25 _ _ ?_
                  try clear hK25 K25
                  refine AWp.seq fun K32 hK32 => ?_
                  refine AWp.rs fun K33 hK33 => ?_
                  try simp only [go_sem, fb3]
                  (repeat (with_reducible refine And.intro ?_ ?_; (first | decide | (exact nfB))))
                  refine hK33 _ _ ?_
                  try clear hK33 K33
                  refine AWp.mask [false, false, false, false, false, false, false, false, false, false, false, false, false, false, false, false, false, false, false, false, false, false, false, true] rfl ?_
                  simp only [go_sem]
                  refine AWp.cond _ rfl (fun hc9 => ?_) (fun hc9 => ?_)
                  · skip
                    try simp only [decide_eq_false_iff_not, Bool.not_eq_true', Bool.not_eq_false', Bool.or_eq_true] at hc9
                    refine AWp.rs fun K34 hK34 => ?_
                    try simp only [go_sem]
                    refine hK34 _ _ ?_
                    try clear hK34 K34
                    refine AWp.ret ?_
                    try simp only [go_sem]
                    rw [sesV_no (by rintro ⟨q1, q2, q3, q4, q5, q6, q7, q8, q9⟩; grind)]; try simp [LeA, LeD]
                  · skip
                    try simp only [decide_eq_true_eq, Bool.not_eq_true', Bool.not_eq_false', Bool.or_eq_false_iff] at hc9
                    refine AWp.skip ?_
                    refine thenQ_n ?_
                    refine hK32 _ _ ?_
                    try clear hK32 K32
                    refine AWp.rs fun K35 hK35 => ?_
                    try simp only [go_sem]
                    refine hK35 _ _ ?_
                    try clear hK35 K35
                    refine AWp.ret ?_
                    try simp only [go_sem]
                    rw [sesV_ok ⟨a1.1, a1.2.1, a1.2.2.1, a1.2.2.2, by grind, by grind, by grind, by grind, by grind⟩]; try simp [LeA, LeD]
        · skip
          try simp only [decide_eq_false_iff_not, Bool.and_eq_false_iff, Int.not_le] at hc3
          have a4 : ¬ (3 ≤ s.step ∧ s.step ≤ 4) := by omega
          refine AWp.rs fun K36 hK36 => ?_
          try simp only [go_sem, fb3]
          refine hK36 _ _ ?_
          try clear hK36 K36
          refine AWp.mask [true, true, false, false, false, false, true] rfl ?_
          simp only [go_sem]
          refine AWp.cond _ rfl (fun hc7 => ?_) (fun hc7 => ?_)
          · skip
            try simp only [decide_eq_true_eq] at hc7
            refine AWp.rs fun K37 hK37 => ?_
            try simp only [go_sem]
            refine hK37 _ _ ?_
            try clear hK37 K37
            refine AWp.ret ?_
            try simp only [go_sem]
            rw [sesV_no (by rintro ⟨q1, q2, q3, q4, q5, q6, q7, q8, q9⟩; have h9 := q8 a4; omega)]; try simp [LeA, LeD]
          · skip
            try simp only [decide_eq_false_iff_not, Int.not_lt] at hc7
            have a7 : s.tos.length = 0 := by omega
            refine AWp.skip ?_
            refine thenQ_n ?_
            refine hK12 _ _ ?_
            try clear hK12 K12
            refine AWp.seq fun K38 hK38 => ?_
            refine AWp.rs fun K39 hK39 => ?_
            try simp only [go_sem, fb3]
            refine hK39 _ _ ?_
            try clear hK39 K39
            refine AWp.cond _ rfl (fun hc8 => ?_) (fun hc8 => ?_)
            · skip
              exact absurd hc8 (by simp; omega)
            · skip
              try simp only [decide_eq_false_iff_not] at hc8
              refine AWp.skip ?_
              refine thenQ_n ?_
              refine hK38 _ _ ?_
              try clear hK38 K38
              refine AWp.mask [true, true] rfl ?_
              simp only [go_sem]
              refine AWp.seq fun K40 hK40 => ?_
              refine AWp.rs fun K41 hK41 => ?_
              try simp only [go_sem, fb3]
              (repeat (with_reducible refine And.intro ?_ ?_; (first | decide | (exact nfB))))
              refine hK41 _ _ ?_
              try clear hK41 K41
              refine AWp.mask [false, false, false, false, false, false, false, false, false, false, false, false, false, false, false, false, false, false, false, false, true] rfl ?_
              simp only [go_sem]
              refine AWp.cond _ rfl (fun hc9 => ?_) (fun hc9 => ?_)
              · skip
                try simp only [decide_eq_false_iff_not, Bool.not_eq_true', Bool.not_eq_false', Bool.or_eq_true] at hc9
                refine AWp.rs fun K42 hK42 => ?_
                try simp only [go_sem]
                refine hK42 _ _ ?_
                try clear hK42 K42
                refine AWp.ret ?_
                try simp only [go_sem]
                rw [sesV_no (by rintro ⟨q1, q2, q3, q4, q5, q6, q7, q8, q9⟩; grind)]; try simp [LeA, LeD]
              · skip
                try simp only [decide_eq_true_eq, Bool.not_eq_true', Bool.not_eq_false', Bool.or_eq_false_iff] at hc9
                refine AWp.skip ?_
                refine thenQ_n ?_
                refine hK40 _ _ ?_
                try clear hK40 K40
                refine AWp.rs fun K43 hK43 => ?_
                try simp only [go_sem]
                refine hK43 _ _ ?_
                try clear hK43 K43
                refine AWp.ret ?_
                try simp only [go_sem]
                rw [sesV_ok ⟨a1.1, a1.2.1, a1.2.2.1, a1.2.2.2, by grind, by grind, by grind, by grind, by grind⟩]; try simp [LeA, LeD]
    · skip
      try simp only [decide_eq_false_iff_not, Bool.and_eq_false_iff, Int.not_le] at hc1
      have a2 : ¬ (2 ≤ s.step ∧ s.step ≤ 4) := by omega
      refine AWp.skip ?_
      refine thenQ_n ?_
      refine hK6 _ _ ?_
      try clear hK6 K6
      refine AWp.seq fun K44 hK44 => ?_
      refine AWp.rs fun K45 hK45 => ?_
      try simp only [go_sem, fb3]
      refine hK45 _ _ ?_
      try clear hK45 K45
      refine AWp.mask [true, true, false, false, false, false, false, false, false, false, true] rfl ?_
      simp only [go_sem]
      refine AWp.cond _ rfl (fun hc3 => ?_) (fun hc3 => ?_)
      · skip
        exact absurd hc3 (by simp; omega)
      · skip
        try simp only [decide_eq_false_iff_not, Bool.and_eq_false_iff, Int.not_le] at hc3
        have a4 : ¬ (3 ≤ s.step ∧ s.step ≤ 4) := by omega
        refine AWp.rs fun K46 hK46 => ?_
        try simp only [go_sem, fb3]
        refine hK46 _ _ ?_
        try clear hK46 K46
        refine AWp.mask [true, true, false, false, false, false, true] rfl ?_
        simp only [go_sem]
        refine AWp.cond _ rfl (fun hc7 => ?_) (fun hc7 => ?_)
        · skip
          try simp only [decide_eq_true_eq] at hc7
          refine AWp.rs fun K47 hK47 => ?_
          try simp only [go_sem]
          refine hK47 _ _ ?_
          try clear hK47 K47
          refine AWp.ret ?_
          try simp only [go_sem]
          rw [sesV_no (by rintro ⟨q1, q2, q3, q4, q5, q6, q7, q8, q9⟩; have h9 := q8 a4; omega)]; try simp [LeA, LeD]
        · skip
          try simp only [decide_eq_false_iff_not, Int.not_lt] at hc7
          have a7 : s.tos.length = 0 := by omega
          refine AWp.skip ?_
          refine thenQ_n ?_
          refine hK44 _ _ ?_
          try clear hK44 K44
          refine AWp.seq fun K48 hK48 => ?_
          refine AWp.rs fun K49 hK49 => ?_
          try simp only [go_sem, fb3]
          refine hK49 _ _ ?_
          try clear hK49 K49
          refine AWp.cond _ rfl (fun hc8 => ?_) (fun hc8 => ?_)
          · skip
            exact absurd hc8 (by simp; omega)
          · skip
            try simp only [decide_eq_false_iff_not] at hc8
            refine AWp.skip ?_
            refine thenQ_n ?_
            refine hK48 _ _ ?_
            try clear hK48 K48
            refine AWp.mask [true, true] rfl ?_
            simp only [go_sem]
            refine AWp.seq fun K50 hK50 => ?_
            refine AWp.rs fun K51 hK51 => ?_
            try simp only [go_sem, fb3]
            (repeat (with_reducible refine And.intro ?_ ?_; (exact nfB)))
            refine hK51 _ _ ?_
            try clear hK51 K51
            refine AWp.mask [false, false, false, false, false, false, false, false, false, false, false, false, false, false, false, false, false, false, false, false, true] rfl ?_
            simp only [go_sem]
            refine AWp.cond _ rfl (fun hc9 => ?_) (fun hc9 => ?_)
            · skip
              try simp only [decide_eq_false_iff_not, Bool.not_eq_true', Bool.not_eq_false', Bool.or_eq_true, Bool.and_eq_false_iff] at hc9
              refine AWp.rs fun K52 hK52 => ?_
              try simp only [go_sem]
              refine hK52 _ _ ?_
              try clear hK52 K52
              refine AWp.ret ?_
              try simp only [go_sem]
              rw [sesV_no (by rintro ⟨q1, q2, q3, q4, q5, q6, q7, q8, q9⟩; grind)]; try simp [LeA, LeD]
            · skip
              try simp only [decide_eq_true_eq, Bool.not_eq_true', Bool.not_eq_false', Bool.and_eq_true, Bool.or_eq_false_iff] at hc9
              refine AWp.skip ?_
              refine thenQ_n ?_
              refine hK50 _ _ ?_
              try clear hK50 K50
              refine AWp.rs fun K53 hK53 => ?_
              try simp only [go_sem]
              refine hK53 _ _ ?_
              try clear hK53 K53
              refine AWp.ret ?_
              try simp only [go_sem]
              rw [sesV_ok ⟨a1.1, a1.2.1, a1.2.2.1, a1.2.2.2, by grind, by grind, by grind, by grind, by grind⟩]; try simp [LeA, LeD]
end Go.Proofs.YthpkjmbdjnelfaaDoor

namespace Go.Proofs.YthpkjmbdjnelfaaDoor
set_option linter.unusedSimpArgs false
set_option linter.unusedVariables false
set_option maxRecDepth 4000 in
set_option maxHeartbeats 1000000 in
theorem In_c (T : Tbl) (n lo hi : Int) : PC Tryd.prog T 63 [.d (.int .i64 n), .d (.int .i64 lo), .d (.int .i64 hi)] (.d (.bool (decide (lo ≤ n) && decide (n ≤ hi)))) := by
  refine ⟨Tryd.call63, PCall.enterS Tryd.func63 rfl Tryd.ntmps63 rfl fun hb => ?_⟩
  simp only [go_sem, Tryd.results63]
  refine AWp.rs fun K1 hK1 => ?_
  try simp only [go_sem]
  refine hK1 _ _ ?_
  try clear hK1 K1
  refine AWp.rs fun K2 hK2 => ?_
  try simp only [go_sem]
  refine hK2 _ _ ?_
  try clear hK2 K2
  refine AWp.mask [false, false, false, true] rfl ?_
  simp only [go_sem]
  refine AWp.ret ?_
  try simp only [go_sem]
  try simp [LeA, LeD]
set_option maxRecDepth 4000 in
set_option maxHeartbeats 1000000 in
theorem sesFault_c (T : Tbl) (s : Sn) (hB : SnB s) : PC Tryd.prog T 30 [.agg [.d (.int .i64 s.step), .d (.str s.fl), .d (.str s.fd), .d (.slc 2 (adsD s.tos)), .d (.str s.text), .d (.bool s.large)]] (.d (.int .i64 (sesV s))) := by
  refine ⟨Tryd.call30, PCall.enterS Tryd.func30 rfl Tryd.ntmps30 rfl fun hb => ?_⟩
  obtain ⟨z1, z2, z3, z4, z5⟩ := hB
  simp only [go_sem, Tryd.results30]
  refine AWp.rs fun K1 hK1 => ?_
  try simp only [go_sem]
  intro b1
  first | intro fb1 | have fb1 := True.intro
  try simp only [freshL] at fb1
  refine hK1 _ _ ?_
  try clear hK1 K1
  refine AWp.seq fun K2 hK2 => ?_
  refine AWp.rs fun K3 hK3 => ?_
  try simp only [go_sem]
  refine DW.pcr rfl rfl rfl rfl (In_c T _ _ _) rfl rfl ?_
  try simp only [go_sem]
  (repeat (with_reducible refine And.intro ?_ ?_; (exact nfB)))
  refine hK3 _ _ ?_
  try clear hK3 K3
  refine AWp.mask [false, true, false, false, false, false, false, false, false, false, false, false, false, false, false, false, false, false, true] rfl ?_
  simp only [go_sem]
  refine AWp.cond _ rfl (fun hc0 => ?_) (fun hc0 => ?_)
  · skip
    try simp only [decide_eq_true_eq, decide_eq_false_iff_not, Bool.not_eq_true', Bool.or_eq_true, Bool.and_eq_false_iff, Int.not_le] at hc0
    refine AWp.rs fun K4 hK4 => ?_
    try simp only [go_sem]
    refine hK4 _ _ ?_
    try clear hK4 K4
    refine AWp.ret ?_
    try simp only [go_sem]
    rw [sesV_no (by rintro ⟨q1, q2, q3, q4, q5, q6, q7, q8, q9⟩; grind)]; try simp [LeA, LeD]
  · skip
    try simp only [decide_eq_true_eq, decide_eq_false_iff_not, Bool.not_eq_false', Bool.and_eq_true, Bool.or_eq_false_iff, Int.not_lt] at hc0
    have a1 : 0 ≤ s.step ∧ s.step ≤ 5 ∧ s.tos.length ≤ 5 ∧ s.text.length ≤ 2000 := by grind
    refine AWp.skip ?_
    refine thenQ_n ?_
    refine hK2 _ _ ?_
    try clear hK2 K2
    refine AWp.rs fun K5 hK5 => ?_
    try simp only [go_sem]
    refine DW.pcr rfl rfl rfl rfl (In_c T _ _ _) rfl rfl ?_
    try simp only [go_sem]
    refine hK5 _ _ ?_
    try clear hK5 K5
    refine AWp.mask [true, true] rfl ?_
    simp only [go_sem]
    refine AWp.rs fun K6 hK6 => ?_
    try simp only [go_sem]
    refine DW.pcr rfl rfl rfl rfl (In_c T _ _ _) rfl rfl ?_
    try simp only [go_sem]
    refine hK6 _ _ ?_
    try clear hK6 K6
    refine AWp.seq fun K7 hK7 => ?_
    refine AWp.rs fun K8 hK8 => ?_
    try simp only [go_sem]
    refine DW.pcgr rfl rfl rfl rfl rfl (fun hg => addrFault_p T _ _ z1 z2) (fun hg => by (try simp only [go_sem]) <;> first | exact hg | (exfalso; simp at hg; done) | (simpa using hg) | grind) rfl rfl ?_
    try simp only [go_sem]
    (repeat (with_reducible refine And.intro ?_ ?_; (first | (exact nfB) | (simp; omega) | (intro hg; simp at hg ⊢; first | omega | exact hg | grind))))
    refine hK8 _ _ ?_
    try clear hK8 K8
    refine AWp.mask [true, false, true, false, false, false, false, false, false, false, false, false, false, false, false, false, false, false, false, false, false, false, false, false, false, false, false, false, true] rfl ?_
    simp only [go_sem]
    refine AWp.cond _ rfl (fun hc1 => ?_) (fun hc1 => ?_)
    · skip
      try simp only [decide_eq_true_eq, decide_eq_false_iff_not, Bool.not_eq_true', Bool.and_eq_true, Bool.or_eq_true, Bool.and_eq_false_iff, Int.not_le] at hc1
      refine AWp.rs fun K9 hK9 => ?_
      try simp only [go_sem]
      refine hK9 _ _ ?_
      try clear hK9 K9
      refine AWp.ret ?_
      try simp only [go_sem]
      rw [sesV_no (by rintro ⟨q1, q2, q3, q4, q5, q6, q7, q8, q9⟩; grind)]; try simp [LeA, LeD]
    · skip
      try simp only [decide_eq_true_eq, decide_eq_false_iff_not, Bool.not_eq_false', Bool.and_eq_true, Bool.and_eq_false_iff, Bool.or_eq_false_iff, Int.not_le] at hc1
      refine AWp.skip ?_
      refine thenQ_n ?_
      refine hK7 _ _ ?_
      try clear hK7 K7
      refine AWp.seq fun K10 hK10 => ?_
      refine AWp.rs fun K11 hK11 => ?_
      try simp only [go_sem]
      refine hK11 _ _ ?_
      try clear hK11 K11
      refine AWp.mask [true, false, false, false, false, false, false, false, true] rfl ?_
      simp only [go_sem]
      refine AWp.cond _ rfl (fun hc2 => ?_) (fun hc2 => ?_)
      · skip
        try simp only [Bool.not_eq_true', beq_eq_false_iff_ne, ne_eq] at hc2
        refine AWp.rs fun K12 hK12 => ?_
        try simp only [go_sem]
        refine hK12 _ _ ?_
        try clear hK12 K12
        refine AWp.ret ?_
        try simp only [go_sem]
        rw [sesV_no (by rintro ⟨q1, q2, q3, q4, q5, q6, q7, q8, q9⟩; grind)]; try simp [LeA, LeD]
      · skip
        try simp only [Bool.not_eq_false', beq_iff_eq] at hc2
        refine AWp.skip ?_
        refine thenQ_n ?_
        refine hK10 _ _ ?_
        try clear hK10 K10
        refine AWp.seq fun K13 hK13 => ?_
        refine AWp.rs fun K14 hK14 => ?_
        try simp only [go_sem]
        refine hK14 _ _ ?_
        try clear hK14 K14
        refine AWp.block ?_
        refine AWp.mask [true, true] rfl ?_
        simp only [go_sem]
        refine AWp.loopS [true] [false, true] (fun n lc hc => ∃ (k : Nat), n = s.tos.length - k ∧ EqS lc [(5, .d (.int .i64 (k : Nat)))] ∧ EqS hc (⟨[(b1, ⟨6, 1, [[.d (.int .i64 s.step), .d (.str s.fl), .d (.str s.fd), .d (.slc 2 (adsD s.tos)), .d (.str s.text), .d (.bool s.large)]]⟩)], []⟩) ∧ (k ≤ s.tos.length) ∧ (TosI s.tos k)) rfl ?_ ?_
        · refine ⟨_, 0, rfl, ?_, ?_, ?_, ?_⟩
          · (try simp only [go_sem]) <;> first | exact ⟨rfl⟩ | (constructor; simp; done)
          · (try simp only [go_sem, icast, adD, adsD_take, fb1]) <;> first | exact ⟨rfl⟩ | (constructor; simp; done)
          all_goals (first | omega | exact fun j h h9 => absurd h9 (by omega))
        · rintro _ _ _ ⟨k, rfl, ⟨rfl⟩, ⟨rfl⟩, h1, h2⟩
          simp only [go_sem]
          refine AWp.seq fun K15 hK15 => ?_
          refine AWp.rs fun K16 hK16 => ?_
          try simp only [go_sem]
          refine hK16 _ _ ?_
          try clear hK16 K16
          refine AWp.mask [true, true, false, false, false, false, true] rfl ?_
          simp only [go_sem]
          refine AWp.cond _ rfl (fun hc3 => ?_) (fun hc3 => ?_)
          · skip
            try simp only [decide_eq_true_eq] at hc3
            have hlt : k < s.tos.length := by omega
            have hki : (k : Int) < (s.tos.length : Int) := by omega
            obtain ⟨zl, zd⟩ := z4 _ (List.getElem_mem hlt)
            refine AWp.skip ?_
            refine thenQ_n ?_
            refine hK15 _ _ ?_
            try clear hK15 K15
            refine AWp.seq fun K17 hK17 => ?_
            refine AWp.block ?_
            refine AWp.ds true [0, 1, 2, 3, 4, 5, 6, 7, 8, 9, 10, 11, 12, 13, 14, 15, 16, 17, 18] rfl (by kernel_rfl) fun K18 hK18 => ?_
            try simp only [go_sem, adD, adsD_get s.tos k _ hlt, hki]
            refine DW.pcr rfl rfl rfl rfl (addrFault_p T _ _ zl zd) rfl rfl ?_
            try simp only [go_sem, adD, adsD_take, adsD_get s.tos k _ hlt, hki]
            (repeat (with_reducible refine And.intro ?_ ?_; (intro hg; refine ⟨hg, ?_⟩; omega)))
            refine DW.pcgr rfl rfl rfl rfl rfl (fun hg => addrIn_c T _ _ (by (try simp only [List.length_take]); omega)) (fun hg => by (try simp only [go_sem]) <;> first | exact hg | (exfalso; simp at hg; done) | (simpa using hg) | grind) rfl rfl ?_
            try simp only [go_sem]
            (repeat (with_reducible refine And.intro ?_ ?_; (exact nfB)))
            refine hK18 _ _ ?_
            try clear hK18 K18
            refine AWp.mask [true, true, false, false, false, false, false, false, false, false, false, false, false, false, false, false, false, false, false, false, false, true] rfl ?_
            simp only [go_sem]
            refine AWp.cond _ rfl (fun hc4 => ?_) (fun hc4 => ?_)
            · skip
              try simp only [decide_eq_true_eq, decide_eq_false_iff_not, Bool.not_eq_true', Bool.or_eq_true] at hc4
              have hn5 : ¬ adrE (s.tos[k]).1 (s.tos[k]).2 = 0 ∨ s.tos[k] ∈ s.tos.take k := by grind
              refine AWp.rs fun K19 hK19 => ?_
              try simp only [go_sem]
              refine hK19 _ _ ?_
              try clear hK19 K19
              refine AWp.ret ?_
              try simp only [go_sem]
              rw [sesV_no (by rintro ⟨q1, q2, q3, q4, q5, q6, q7, q8, q9⟩; have h9 := (q7 (by grind)).2 k hlt; rcases hn5 with h7 | h7; exact h7 h9.1; exact h9.2 h7)]; try simp [LeA, LeD]
            · skip
              try simp only [decide_eq_true_eq, decide_eq_false_iff_not, Bool.not_eq_false', Bool.or_eq_false_iff] at hc4
              have hn4 : adrE (s.tos[k]).1 (s.tos[k]).2 = 0 ∧ ¬ s.tos[k] ∈ s.tos.take k := by grind
              obtain ⟨hn4, hn5⟩ := hn4
              refine AWp.skip ?_
              refine blkQ_n (thenQ_n ?_)
              refine hK17 _ _ ?_
              try clear hK17 K17
              refine AWp.rk fun K20 hK20 => ?_
              try simp only [go_sem, icast]
              (repeat (with_reducible refine And.intro ?_ ?_; omega))
              refine hK20 _ _ ?_
              try clear hK20 K20
              refine thenQ_n ?_
              refine EndS.mk [true] [false, true] [] [] [b1] [] rfl ?_ ?_
              · (try simp only [go_sem]) <;> try rfl
              refine .e ⟨_, ?_, k + 1, rfl, ?_, ?_, ?_, ?_⟩
              · first | omega | (simp; omega) | (grind)
              · (try simp only [go_sem]) <;> first | exact ⟨rfl⟩ | (constructor; simp; done)
              · (try simp only [go_sem]) <;> first | exact ⟨rfl⟩ | (constructor; simp; done)
              · omega
              · exact h2.s hlt hn4 hn5
          · skip
            try simp only [decide_eq_false_iff_not, Int.not_lt] at hc3
            have a5 := h2.e (by omega)
            refine AWp.exit ?_
            refine thenQ_e (thenQ_e (blkQ_e (thenQ_n ?_)))
            refine hK13 _ _ ?_
            try clear hK13 K13
            refine AWp.seq fun K21 hK21 => ?_
            refine AWp.rs fun K22 hK22 => ?_
            try simp only [go_sem]
            (repeat (with_reducible refine And.intro ?_ ?_; (intro hg; simp at hg ⊢; first | omega | exact hg | grind)))
            refine hK22 _ _ ?_
            try clear hK22 K22
            refine AWp.mask [false, false, false, false, false, false, false, false, false, false, false, false, false, false, true] rfl ?_
            simp only [go_sem]
            refine AWp.cond _ rfl (fun hc5 => ?_) (fun hc5 => ?_)
            · skip
              try simp only [decide_eq_false_iff_not, Bool.not_eq_true', Bool.and_eq_true, Bool.or_eq_true] at hc5
              refine AWp.rs fun K23 hK23 => ?_
              try simp only [go_sem]
              refine hK23 _ _ ?_
              try clear hK23 K23
              refine AWp.ret ?_
              try simp only [go_sem]
              rw [sesV_no (by rintro ⟨q1, q2, q3, q4, q5, q6, q7, q8, q9⟩; grind)]; try simp [LeA, LeD]
            · skip
              try simp only [decide_eq_true_eq, Bool.not_eq_false', Bool.and_eq_false_iff, Bool.or_eq_false_iff] at hc5
              refine AWp.skip ?_
              refine thenQ_n ?_
              refine hK21 _ _ ?_
              try clear hK21 K21
              refine AWp.rs fun K24 hK24 => ?_
              try simp only [go_sem]
              refine hK24 _ _ ?_
              try clear hK24 K24
              refine AWp.ret ?_
              try simp only [go_sem]
              rw [sesV_ok ⟨a1.1, a1.2.1, a1.2.2.1, a1.2.2.2, by grind, by grind, by grind, by grind, by grind⟩]; try simp [LeA, LeD]
end Go.Proofs.YthpkjmbdjnelfaaDoor

namespace Go.Proofs.YthpkjmbdjnelfaaDoor
set_option linter.unusedSimpArgs false
set_option linter.unusedVariables false
def mailS (t : Tx) (s : Sn) : Sn × Int := if ¬ s.step = 1 then (s, 503) else if (angR t).2 = false then (s, 501) else (⟨2, (angR t).1.1, (angR t).1.2, s.tos, s.text, s.large⟩, 250)
def rcptS (known : List Tx) (t : Tx) (s : Sn) : Sn × Int :=
  if ¬ s.step = 2 ∧ ¬ s.step = 3 then (s, 503) else if (angR t).2 = false then (s, 501) else if ¬ (angR t).1.1 ∈ known then (s, 550)
  else if (angR t).1 ∈ s.tos then (s, 250) else if s.tos.length = 5 then (s, 452) else (⟨3, s.fl, s.fd, s.tos ++ [(angR t).1], s.text, s.large⟩, 250)
def sob (b : Nat) (s : Sn) : Nat × Ob := (b, ⟨6, 1, [[.d (.int .i64 s.step), .d (.str s.fl), .d (.str s.fd), .d (.slc 2 (adsD s.tos)), .d (.str s.text), .d (.bool s.large)]]⟩)
attribute [go_sem] sob
theorem addrC_one {s : Tx} {a : Ad} (h1 : (listR s).1 = [a]) (h0 : (listR s).2 = 0) : addrC s = (a, decide (s = 60 :: (adT a ++ [62]))) := by rw [addrC, if_pos h0, h1]
theorem addrC_no {s : Tx} (h : ¬ (listR s).2 = 0 ∨ ¬ (listR s).1.length = 1) : addrC s = (([], []), false) := by
  unfold addrC
  split
  · rename_i h0
    split
    · rename_i a h1; rw [h1] at h; simp [h0] at h
    · rfl
  · rfl
set_option maxRecDepth 4000 in
set_option maxHeartbeats 1000000 in
theorem lmAddr_c (T : Tbl) (hL : LibT T) (s : Tx) : PC Tryd.prog T 124 [.d (.str s)] (anV (addrC s)) := by
  refine ⟨Tryd.call124, PCall.enterS Tryd.func124 rfl Tryd.ntmps124 rfl fun hb => ?_⟩
  simp only [go_sem, Tryd.results124]
  refine AWp.rs fun K1 hK1 => ?_
  try simp only [go_sem]
  intro b2
  first | intro fb2 | have fb2 := True.intro
  try simp only [freshL] at fb2
  refine hK1 _ _ ?_
  try clear hK1 K1
  refine AWp.rs fun K2 hK2 => ?_
  try simp only [go_sem]
  refine DW.pcr rfl rfl rfl rfl (List_c T hL s) rfl rfl ?_
  try simp only [go_sem, adsV]
  refine hK2 _ _ ?_
  try clear hK2 K2
  refine AWp.mask [true, true, false, true, true] rfl ?_
  simp only [go_sem]
  refine AWp.seq fun K3 hK3 => ?_
  refine AWp.rs fun K4 hK4 => ?_
  try simp only [go_sem]
  (repeat (with_reducible refine And.intro ?_ ?_; (exact nfB)))
  refine hK4 _ _ ?_
  try clear hK4 K4
  refine AWp.mask [true, true, true, false, false, false, false, false, false, false, true] rfl ?_
  simp only [go_sem]
  refine AWp.cond _ rfl (fun hc0 => ?_) (fun hc0 => ?_)
  · skip
    try simp only [decide_eq_false_iff_not, Bool.not_eq_true', Bool.or_eq_true] at hc0
    have hn : ¬ (listR s).2 = 0 ∨ ¬ (listR s).1.length = 1 := by grind
    refine AWp.rs fun K5 hK5 => ?_
    try simp only [go_sem]
    refine hK5 _ _ ?_
    try clear hK5 K5
    refine AWp.mask [false, true, true] rfl ?_
    simp only [go_sem]
    refine AWp.ret ?_
    try simp only [go_sem]
    rw [addrC_no hn]; simp [anV, LeA, LeL, LeD]
  · skip
    try simp only [decide_eq_true_eq, Bool.not_eq_false', Bool.or_eq_false_iff] at hc0
    have hy : (listR s).2 = 0 ∧ (listR s).1.length = 1 := by grind
    obtain ⟨a, ha⟩ := List.length_eq_one_iff.1 hy.2
    have had := listR_adr (show listR s = ([a], 0) from Prod.ext ha hy.1) a (List.mem_singleton.2 rfl)
    have hal : (adT (a.1, a.2)).length ≤ 100 := by have h9 := (adr_run had).2.2; simp only [adT, List.length_append, List.length_cons]; omega
    have hg : (adsD (listR s).1).getD 0 [] = [D.str a.1, D.str a.2] := by rw [ha]; rfl
    refine AWp.skip ?_
    refine thenQ_n ?_
    refine hK3 _ _ ?_
    try clear hK3 K3
    refine AWp.rs fun K6 hK6 => ?_
    try simp only [go_sem, hg]
    (repeat (with_reducible refine And.intro ?_ ?_; omega))
    refine DW.pcr rfl rfl rfl rfl (Part_c T hL a.1 a.2 had) rfl rfl ?_
    try simp only [go_sem]
    refine hK6 _ _ ?_
    try clear hK6 K6
    refine AWp.mask [true, true, true, true] rfl ?_
    simp only [go_sem]
    refine AWp.rs fun K7 hK7 => ?_
    try simp only [go_sem, hg]
    (repeat (with_reducible refine And.intro ?_ ?_; omega))
    refine hK7 _ _ ?_
    try clear hK7 K7
    refine AWp.mask [false, true, true] rfl ?_
    simp only [go_sem]
    refine AWp.ret ?_
    try simp only [go_sem]
    rw [addrC_one ha hy.1]; simp [anV, LeA, LeL, LeD]
theorem mailS_1 {t : Tx} {s : Sn} (h : ¬ s.step = 1) : mailS t s = (s, 503) := if_pos h
theorem mailS_2 {t : Tx} {s : Sn} (h : s.step = 1) (h2 : (angR t).2 = false) : mailS t s = (s, 501) := by rw [mailS, if_neg (by omega), if_pos h2]
theorem mailS_3 {t : Tx} {s : Sn} (h : s.step = 1) (h2 : (angR t).2 = true) : mailS t s = (⟨2, (angR t).1.1, (angR t).1.2, s.tos, s.text, s.large⟩, 250) := by rw [mailS, if_neg (by omega), if_neg (by simp [h2])]
set_option maxRecDepth 4000 in
set_option maxHeartbeats 1000000 in
theorem mail_c (T : Tbl) (hL : LibT T) (b : Nat) (s : Sn) (t : Tx) (F : List (Nat × Ob)) (L : List Nat) : AC Tryd.prog T 59 [.ptr b 6 0 0, .d (.str t)] (⟨sob b s :: F, L⟩) (fun x h => x = .ret (.d (.int .i64 (mailS t s).2)) ∧ h = ⟨sob b (mailS t s).1 :: F, L⟩) := by
  refine ⟨Tryd.call59, ACalls.enterS Tryd.func59 rfl Tryd.ntmps59 rfl fun hb => ?_⟩
  obtain ⟨g1, g2⟩ := ang_eq t
  simp only [go_sem, Tryd.results59]
  refine AWp.rs fun K1 hK1 => ?_
  try simp only [go_sem]
  refine hK1 _ _ ?_
  try clear hK1 K1
  refine AWp.rs fun K2 hK2 => ?_
  try simp only [go_sem]
  refine DW.pcr rfl rfl rfl rfl (lmAddr_c T hL t) rfl rfl ?_
  try simp only [go_sem, anV]
  intro b5
  first | intro fb5 | have fb5 := True.intro
  try simp only [freshL] at fb5
  refine hK2 _ _ ?_
  try clear hK2 K2
  refine AWp.mask [true, false, false, true, true] rfl ?_
  simp only [go_sem]
  refine AWp.seq fun K3 hK3 => ?_
  refine AWp.block ?_
  refine AWp.rs fun K4 hK4 => ?_
  try simp only [go_sem, fb5]
  refine hK4 _ _ ?_
  try clear hK4 K4
  refine AWp.mask [true, true, true, true] rfl ?_
  simp only [go_sem]
  refine AWp.cond _ rfl (fun hc0 => ?_) (fun hc0 => ?_)
  · skip
    try simp only [decide_eq_false_iff_not, Bool.not_eq_true'] at hc0
    refine AWp.rs fun K5 hK5 => ?_
    try simp only [go_sem]
    refine hK5 _ _ ?_
    try clear hK5 K5
    refine AWp.mask [false, true] rfl ?_
    simp only [go_sem]
    refine AWp.ret ?_
    try simp only [thenQ, blkQ]
    apply endW_r [b5] [] [b] [] (by (try simp only [go_sem]); rfl)
    · rw [mailS_1 hc0]
      exact ⟨rfl, by first | rfl | (simp only [go_sem, fb5]; done) | (simp only [go_sem, sob, anV, fb5]; rfl)⟩
    · simp [LeA, LeD]
  · skip
    try simp only [decide_eq_true_eq, Bool.not_eq_false'] at hc0
    have h0 : s.step = 1 := by omega
    refine AWp.rs fun K6 hK6 => ?_
    try simp only [go_sem]
    refine hK6 _ _ ?_
    try clear hK6 K6
    refine AWp.mask [true, true, false, false, true] rfl ?_
    simp only [go_sem]
    refine AWp.cond _ rfl (fun hc1 => ?_) (fun hc1 => ?_)
    · skip
      try simp only [Bool.not_eq_true'] at hc1
      have h1 : (angR t).2 = false := by rw [← g1]; simpa using hc1
      refine AWp.rs fun K7 hK7 => ?_
      try simp only [go_sem]
      refine hK7 _ _ ?_
      try clear hK7 K7
      refine AWp.ret ?_
      try simp only [thenQ, blkQ]
      apply endW_r [b5] [] [b] [] (by (try simp only [go_sem]); rfl)
      · rw [mailS_2 h0 h1]
        exact ⟨rfl, by first | rfl | (simp only [go_sem, fb5]; done) | (simp only [go_sem, sob, anV, fb5]; rfl)⟩
      · simp [LeA, LeD]
    · skip
      try simp only [Bool.not_eq_false'] at hc1
      have h1 : (angR t).2 = true := by rw [← g1]; simpa using hc1
      have h2 := g2 h1
      refine AWp.skip ?_
      refine blkQ_n (thenQ_n ?_)
      refine hK3 _ _ ?_
      try clear hK3 K3
      refine AWp.dsN false [0, 1] [2] [3, 4, 5, 6, 7, 8, 9] 10 [] rfl (by kernel_rfl) rfl fun K8 hK8 => ?_
      try simp only [go_sem]
      refine Exists.intro (fun h' : AH => getO b5 h'.objs = some ⟨2, 1, [[.d (.str (addrC t).1.1), .d (.str (addrC t).1.2)]]⟩) (And.intro (by simp [getO]) ?_)
      try simp only [go_sem]
      refine FRN.ld rfl rfl (fun h' m1 => (by first | rfl | (simp only [go_sem, m1]; first | done | rfl | exact ⟨by omega, rfl⟩))) ?_
      try simp only [go_sem]
      refine FRN.nil ?_
      refine lvc_ok _ _ _ ?_
      try simp only [go_sem, fb5]
      first | with_reducible refine And.intro (by simp [getO, sob, anV, fb5]) ?_ | skip
      refine lvc_ok _ _ _ ?_
      try simp only [go_sem, fb5]
      first | with_reducible refine And.intro (by simp [getO, sob, anV, fb5]) ?_ | skip
      refine lvc_ok _ _ _ ?_
      try simp only [go_sem, fb5]
      first | with_reducible refine And.intro (by simp [getO, sob, anV, fb5]) ?_ | skip
      refine lvc_ok _ _ _ ?_
      try simp only [go_sem, fb5]
      first | with_reducible refine And.intro (by simp [getO, sob, anV, fb5]) ?_ | skip
      refine lvc_ok _ _ _ ?_
      try simp only [go_sem, fb5]
      first | with_reducible refine And.intro (by simp [getO, sob, anV, fb5]) ?_ | skip
      refine lvc_ok _ _ _ ?_
      try simp only [go_sem, fb5]
      first | with_reducible refine And.intro (by simp [getO, sob, anV, fb5]) ?_ | skip
      refine lvc_ok _ _ _ ?_
      try simp only [go_sem, fb5]
      first | with_reducible refine And.intro (by simp [getO, sob, anV, fb5]) ?_ | skip
      refine lvc_ok _ _ _ ?_
      try simp only [go_sem, fb5]
      refine hK8 _ _ ?_
      try clear hK8 K8
      refine AWp.mask [] rfl ?_
      simp only [go_sem]
      refine AWp.rs fun K9 hK9 => ?_
      try simp only [go_sem]
      refine hK9 _ _ ?_
      try clear hK9 K9
      refine AWp.ret ?_
      apply endW_r [b5] [] [b] [] (by (try simp only [go_sem]); rfl)
      · rw [mailS_3 h0 h1, ← h2]
        exact ⟨rfl, by first | rfl | (simp only [go_sem, fb5]; done) | (simp only [go_sem, sob, anV, fb5]; rfl)⟩
      · simp [LeA, LeD]
end Go.Proofs.YthpkjmbdjnelfaaDoor

namespace Go.Proofs.YthpkjmbdjnelfaaDoor
set_option linter.unusedSimpArgs false
set_option linter.unusedVariables false
set_option maxRecDepth 4000 in
set_option maxHeartbeats 1000000 in
theorem CloneA_N (T : Tbl) (F : List (Nat × Ob)) (L : List Nat) : AC Tryd.prog T 27 [.nils] (⟨F, L⟩) (fun x h => ∃ t, freshT t L ∧ x = .ret (.own t 2 (adsD [])) ∧ h = ⟨F, t :: L⟩) := by
  refine ⟨Tryd.call27, ACalls.enterS Tryd.func27 rfl Tryd.ntmps27 rfl fun hb => ?_⟩
  simp only [go_sem, Tryd.results27]
  refine AWp.rs fun K1 hK1 => ?_
  try simp only [go_sem]
  refine hK1 _ _ ?_
  try clear hK1 K1
  refine AWp.seq fun K2 hK2 => ?_
  refine AWp.rs fun K3 hK3 => ?_
  try simp only [go_sem]
  refine hK3 _ _ ?_
  try clear hK3 K3
  refine AWp.cond _ rfl (fun hc0 => ?_) (fun hc0 => ?_)
  · skip
    try simp only [] at hc0
    refine AWp.rs fun K4 hK4 => ?_
    try simp only [go_sem]
    refine hK4 _ _ ?_
    try clear hK4 K4
    refine AWp.ownNilS 2 2 rfl rfl (by decide) fun t0 ft0 => ?_
    try simp only [freshT] at ft0
    simp only [go_sem]
    refine AWp.ret ?_
    try simp only [thenQ]
    apply endW_r [] [] [] [] (by (try simp only [go_sem]); rfl)
    · exact ⟨t0, ft0, rfl, rfl⟩
    · simp [LeA, adsD]
  · skip
    exact absurd hc0 (by simp)
set_option maxRecDepth 4000 in
set_option maxHeartbeats 1000000 in
theorem CloneA_E (T : Tbl) (l : List Ad) (hl : l.length ≤ 1048576) (F : List (Nat × Ob)) (L : List Nat) : AC Tryd.prog T 27 [.nn 2 (adsD l)] (⟨F, L⟩) (fun x h => ∃ t, freshT t L ∧ x = .ret (.own t 2 (adsD l)) ∧ h = ⟨F, t :: L⟩) := by
  refine ⟨Tryd.call27, ACalls.enterS Tryd.func27 rfl Tryd.ntmps27 rfl fun hb => ?_⟩
  simp only [go_sem, Tryd.results27]
  refine AWp.rs fun K1 hK1 => ?_
  try simp only [go_sem]
  refine hK1 _ _ ?_
  try clear hK1 K1
  refine AWp.seq fun K2 hK2 => ?_
  refine AWp.rs fun K3 hK3 => ?_
  try simp only [go_sem]
  refine hK3 _ _ ?_
  try clear hK3 K3
  refine AWp.cond _ rfl (fun hc0 => ?_) (fun hc0 => ?_)
  · skip
    exact absurd hc0 (by simp)
  · skip
    try simp only [] at hc0
    refine AWp.skip ?_
    refine thenQ_n ?_
    refine hK2 _ _ ?_
    try clear hK2 K2
    refine AWp.cut 0 fun K4 hK4 => ?_
    simp only [List.take_zero, List.drop_zero]
    try simp only [go_sem]
    refine DW.bsO (he := by first | rfl | kernel_rfl) rfl rfl (show slI Tryd.prog 24 = some (23, 2, 32) by simp only [go_sem]) (by (try simp only [go_sem]); rfl) rfl (by decide) fun t1 ft1 => ?_
    try simp only [freshT] at ft1
    try simp only [go_sem]
    refine DW.app rfl rfl rfl rfl (show slI Tryd.prog 24 = some (23, 2, 32) by simp only [go_sem]) rfl rfl (by simp only [go_sem]) (by first | exact .inl rfl | exact .inr rfl) (by (try simp only [go_sem, adsD_len, List.length_nil]); first | done | omega) (by (try simp only [go_sem, adsD_len, List.length_nil]); first | done | omega) fun t2 ft2 => ?_
    try simp only [freshT] at ft2
    try simp only [go_sem]
    refine hK4 _ _ ?_
    try clear hK4 K4
    refine AWp.mask [false, true] rfl ?_
    simp only [go_sem]
    refine AWp.ret ?_
    apply endW_r [] [] [] [] (by (try simp only [go_sem]); rfl)
    · exact ⟨t2, ft2.2, rfl, rfl⟩
    · simp [LeA]
theorem CloneA_c (T : Tbl) (l : List Ad) (hl : l.length ≤ 1048576) (F : List (Nat × Ob)) (L : List Nat) : AC Tryd.prog T 27 [.d (.slc 2 (adsD l))] ⟨F, L⟩ (fun x h => ∃ t, freshT t L ∧ x = .ret (.own t 2 (adsD l)) ∧ h = ⟨F, t :: L⟩) := by
  refine AC.nnil (fun e => ?_) (CloneA_E T l hl F L)
  cases l with
  | nil => exact CloneA_N T F L
  | cons a l => cases e
set_option maxRecDepth 4000 in
set_option maxHeartbeats 1000000 in
theorem CloneD_N (T : Tbl) (F : List (Nat × Ob)) (L : List Nat) : AC Tryd.prog T 27 [.nils] (⟨F, L⟩) (fun x h => x = .ret (.d (.slc 2 (adsD []))) ∧ h = ⟨F, L⟩) := by
  refine ⟨Tryd.call27, ACalls.enterS Tryd.func27 rfl Tryd.ntmps27 rfl fun hb => ?_⟩
  simp only [go_sem, Tryd.results27]
  refine AWp.rs fun K1 hK1 => ?_
  try simp only [go_sem]
  refine hK1 _ _ ?_
  try clear hK1 K1
  refine AWp.seq fun K2 hK2 => ?_
  refine AWp.rs fun K3 hK3 => ?_
  try simp only [go_sem]
  refine hK3 _ _ ?_
  try clear hK3 K3
  refine AWp.cond _ rfl (fun hc0 => ?_) (fun hc0 => ?_)
  · skip
    try simp only [] at hc0
    refine AWp.rs fun K4 hK4 => ?_
    try simp only [go_sem]
    refine hK4 _ _ ?_
    try clear hK4 K4
    refine AWp.ret ?_
    try simp only [thenQ]
    apply endW_r [] [] [] [] (by (try simp only [go_sem]); rfl)
    · exact ⟨rfl, rfl⟩
    · simp [LeA, adsD]
  · skip
    exact absurd hc0 (by simp)
set_option maxRecDepth 4000 in
set_option maxHeartbeats 1000000 in
theorem CloneD_E (T : Tbl) (l : List Ad) (hl : l.length ≤ 1048576) (F : List (Nat × Ob)) (L : List Nat) : AC Tryd.prog T 27 [.nn 2 (adsD l)] (⟨F, L⟩) (fun x h => x = .ret (.d (.slc 2 (adsD l))) ∧ h = ⟨F, L⟩) := by
  refine ⟨Tryd.call27, ACalls.enterS Tryd.func27 rfl Tryd.ntmps27 rfl fun hb => ?_⟩
  simp only [go_sem, Tryd.results27]
  refine AWp.rs fun K1 hK1 => ?_
  try simp only [go_sem]
  refine hK1 _ _ ?_
  try clear hK1 K1
  refine AWp.seq fun K2 hK2 => ?_
  refine AWp.rs fun K3 hK3 => ?_
  try simp only [go_sem]
  refine hK3 _ _ ?_
  try clear hK3 K3
  refine AWp.cond _ rfl (fun hc0 => ?_) (fun hc0 => ?_)
  · skip
    exact absurd hc0 (by simp)
  · skip
    try simp only [] at hc0
    refine AWp.skip ?_
    refine thenQ_n ?_
    refine hK2 _ _ ?_
    try clear hK2 K2
    refine AWp.cut 0 fun K4 hK4 => ?_
    simp only [List.take_zero, List.drop_zero]
    try simp only [go_sem]
    refine DW.bsO (he := by first | rfl | kernel_rfl) rfl rfl (show slI Tryd.prog 24 = some (23, 2, 32) by simp only [go_sem]) (by (try simp only [go_sem]); rfl) rfl (by decide) fun t1 ft1 => ?_
    try simp only [freshT] at ft1
    try simp only [go_sem]
    refine DW.app rfl rfl rfl rfl (show slI Tryd.prog 24 = some (23, 2, 32) by simp only [go_sem]) rfl rfl (by simp only [go_sem]) (by first | exact .inl rfl | exact .inr rfl) (by (try simp only [go_sem, adsD_len, List.length_nil]); first | done | omega) (by (try simp only [go_sem, adsD_len, List.length_nil]); first | done | omega) fun t2 ft2 => ?_
    try simp only [freshT] at ft2
    try simp only [go_sem]
    refine hK4 _ _ ?_
    try clear hK4 K4
    refine AWp.mask [false, true] rfl ?_
    simp only [go_sem]
    refine AWp.ret ?_
    apply endW_r [] [t2] [] [] (by (try simp only [go_sem]); rfl)
    · exact ⟨rfl, by first | rfl | (simp only [go_sem]; done) | (simp only [go_sem, ft1, ft2]; rfl)⟩
    · simp [LeA]
theorem CloneA_p (T : Tbl) (l : List Ad) (hl : l.length ≤ 1048576) : PC Tryd.prog T 27 [.d (.slc 2 (adsD l))] (.d (.slc 2 (adsD l))) := by
  refine PC.of_ac (AC.mono (R := fun x h => x = .ret (.d (.slc 2 (adsD l))) ∧ h = ⟨[], []⟩) ?_ fun x h hx => hx.1) (by simp [LeA, LeD])
  refine AC.nnil (fun e => ?_) (CloneD_E T l hl [] [])
  cases l with
  | nil => exact CloneD_N T [] []
  | cons a l => cases e
theorem AWp.wk1 {P : Program} {T : Tbl} {c : Code} {Q : AQ} {sl : List AV} {b k cc : Nat} {rows rows' : List (List AV)} {F : List (Nat × Ob)} {L : List Nat} (hr : LeRows rows rows') (H : AWp P T c Q sl ⟨(b, ⟨k, cc, rows'⟩) :: F, L⟩) : AWp P T c Q sl ⟨(b, ⟨k, cc, rows⟩) :: F, L⟩ := by
  refine AWp.leH (h' := ⟨(b, ⟨k, cc, rows'⟩) :: F, L⟩) (fun T G w S => ⟨S.below, S.glob, S.frz, S.fin, fun p hp => ?_, S.nd, S.liv, S.tdis, S.todis, S.lnd⟩) H
  rcases List.mem_cons.1 hp with rfl | h9
  · exact ObR.le (o := ⟨k, cc, rows⟩) (o' := ⟨k, cc, rows'⟩) rfl rfl hr (S.obj (b, ⟨k, cc, rows⟩) (List.mem_cons_self ..))
  · exact S.obj p (List.mem_cons_of_mem _ h9)
section
variable {known : List Tx} {t : Tx} {s : Sn}
theorem rcptS_1 (h : ¬ s.step = 2 ∧ ¬ s.step = 3) : rcptS known t s = (s, 503) := if_pos h
theorem rcptS_2 (h : s.step = 2 ∨ s.step = 3) (h2 : (angR t).2 = false) : rcptS known t s = (s, 501) := by rw [rcptS, if_neg (by omega), if_pos h2]
theorem rcptS_3 (h : s.step = 2 ∨ s.step = 3) (h2 : (angR t).2 = true) (h3 : ¬ (angR t).1.1 ∈ known) : rcptS known t s = (s, 550) := by rw [rcptS, if_neg (by omega), if_neg (by simp [h2]), if_pos h3]
theorem rcptS_4 (h : s.step = 2 ∨ s.step = 3) (h2 : (angR t).2 = true) (h3 : (angR t).1.1 ∈ known) (h4 : (angR t).1 ∈ s.tos) : rcptS known t s = (s, 250) := by rw [rcptS, if_neg (by omega), if_neg (by simp [h2]), if_neg (by simp [h3]), if_pos h4]
theorem rcptS_5 (h : s.step = 2 ∨ s.step = 3) (h2 : (angR t).2 = true) (h3 : (angR t).1.1 ∈ known) (h4 : ¬ (angR t).1 ∈ s.tos) (h5 : s.tos.length = 5) : rcptS known t s = (s, 452) := by rw [rcptS, if_neg (by omega), if_neg (by simp [h2]), if_neg (by simp [h3]), if_neg h4, if_pos h5]
theorem rcptS_6 (h : s.step = 2 ∨ s.step = 3) (h2 : (angR t).2 = true) (h3 : (angR t).1.1 ∈ known) (h4 : ¬ (angR t).1 ∈ s.tos) (h5 : ¬ s.tos.length = 5) : rcptS known t s = (⟨3, s.fl, s.fd, s.tos ++ [(angR t).1], s.text, s.large⟩, 250) := by rw [rcptS, if_neg (by omega), if_neg (by simp [h2]), if_neg (by simp [h3]), if_neg h4, if_neg h5]
end
set_option maxRecDepth 4000 in
set_option maxHeartbeats 1000000 in
theorem rcpt_c (T : Tbl) (hL : LibT T) (known : List Tx) (hkn : known.length ≤ 1048576) (b : Nat) (s : Sn) (t : Tx) (hto : s.tos.length ≤ 5) (F : List (Nat × Ob)) (L : List Nat) : AC Tryd.prog T 60 [.ptr b 6 0 0, .d (.str t), .d (.slc 1 (known.map strD))] (⟨sob b s :: F, L⟩) (fun x h => x = .ret (.d (.int .i64 (rcptS known t s).2)) ∧ h = ⟨sob b (rcptS known t s).1 :: F, L⟩) := by
  refine ⟨Tryd.call60, ACalls.enterS Tryd.func60 rfl Tryd.ntmps60 rfl fun hb => ?_⟩
  obtain ⟨g1, g2⟩ := ang_eq t
  simp only [go_sem, Tryd.results60]
  refine AWp.rs fun K1 hK1 => ?_
  try simp only [go_sem]
  refine hK1 _ _ ?_
  try clear hK1 K1
  refine AWp.rs fun K2 hK2 => ?_
  try simp only [go_sem]
  refine DW.pcr rfl rfl rfl rfl (lmAddr_c T hL t) rfl rfl ?_
  try simp only [go_sem, anV]
  intro b7
  first | intro fb7 | have fb7 := True.intro
  try simp only [freshL] at fb7
  refine hK2 _ _ ?_
  try clear hK2 K2
  refine AWp.mask [true, false, true, false, true, true] rfl ?_
  simp only [go_sem]
  refine AWp.seq fun K3 hK3 => ?_
  refine AWp.block ?_
  refine AWp.rs fun K4 hK4 => ?_
  try simp only [go_sem, fb7]
  refine hK4 _ _ ?_
  try clear hK4 K4
  refine AWp.mask [true, true, true, true, true] rfl ?_
  simp only [go_sem]
  refine AWp.cond _ rfl (fun hc0 => ?_) (fun hc0 => ?_)
  · skip
    try simp only [decide_eq_false_iff_not, Bool.not_eq_true', Bool.and_eq_true] at hc0
    refine AWp.rs fun K5 hK5 => ?_
    try simp only [go_sem]
    refine hK5 _ _ ?_
    try clear hK5 K5
    refine AWp.mask [false, false, true] rfl ?_
    simp only [go_sem]
    refine AWp.ret ?_
    try simp only [thenQ, blkQ]
    apply endW_r [b7] [] [b] [] (by (try simp only [go_sem]); rfl)
    · rw [rcptS_1 (by omega)]
      exact ⟨rfl, by first | rfl | (simp only [go_sem, fb7]; done) | (simp only [go_sem, sob, anV, fb7]; rfl)⟩
    · simp [LeA, LeD]
  · skip
    try simp only [decide_eq_true_eq, Bool.not_eq_false', Bool.and_eq_false_iff] at hc0
    have h0 : s.step = 2 ∨ s.step = 3 := by omega
    refine AWp.rs fun K6 hK6 => ?_
    try simp only [go_sem]
    refine hK6 _ _ ?_
    try clear hK6 K6
    refine AWp.mask [true, true, true, false, false, true] rfl ?_
    simp only [go_sem]
    refine AWp.cond _ rfl (fun hc1 => ?_) (fun hc1 => ?_)
    · skip
      try simp only [Bool.not_eq_true'] at hc1
      have h1 : (angR t).2 = false := by rw [← g1]; simpa using hc1
      refine AWp.rs fun K7 hK7 => ?_
      try simp only [go_sem]
      refine hK7 _ _ ?_
      try clear hK7 K7
      refine AWp.mask [false, false, true] rfl ?_
      simp only [go_sem]
      refine AWp.ret ?_
      try simp only [thenQ, blkQ]
      apply endW_r [b7] [] [b] [] (by (try simp only [go_sem]); rfl)
      · rw [rcptS_2 h0 h1]
        exact ⟨rfl, by first | rfl | (simp only [go_sem, fb7]; done) | (simp only [go_sem, sob, anV, fb7]; rfl)⟩
      · simp [LeA, LeD]
    · skip
      try simp only [Bool.not_eq_false'] at hc1
      have h1 : (angR t).2 = true := by rw [← g1]; simpa using hc1
      have h2 := g2 h1
      rw [h2]
      refine AWp.rs fun K8 hK8 => ?_
      try simp only [go_sem, fb7]
      refine DW.pcr rfl rfl rfl rfl (ContT_c T _ _ hkn) rfl rfl ?_
      try simp only [go_sem]
      refine hK8 _ _ ?_
      try clear hK8 K8
      refine AWp.mask [true, false, true, false, true] rfl ?_
      simp only [go_sem]
      refine AWp.cond _ rfl (fun hc2 => ?_) (fun hc2 => ?_)
      · skip
        try simp only [decide_eq_false_iff_not, Bool.not_eq_true'] at hc2
        have h3 : ¬ (angR t).1.1 ∈ known := by simpa using hc2
        refine AWp.rs fun K9 hK9 => ?_
        try simp only [go_sem]
        refine hK9 _ _ ?_
        try clear hK9 K9
        refine AWp.ret ?_
        try simp only [thenQ, blkQ]
        apply endW_r [b7] [] [b] [] (by (try simp only [go_sem]); rfl)
        · rw [rcptS_3 h0 h1 h3]
          exact ⟨rfl, by first | rfl | (simp only [go_sem, fb7]; done) | (simp only [go_sem, sob, anV, fb7]; rfl)⟩
        · simp [LeA, LeD]
      · skip
        try simp only [decide_eq_true_eq, Bool.not_eq_false'] at hc2
        have h3 : (angR t).1.1 ∈ known := by simpa using hc2
        refine AWp.ds true [0, 1, 2, 3, 4, 5, 6, 7] rfl (by kernel_rfl) fun K10 hK10 => ?_
        try simp only [go_sem, fb7]
        refine DW.pcr rfl rfl rfl rfl (ContA_c T _ _ (by (try simp only [List.length_take]); omega)) rfl rfl ?_
        try simp only [go_sem]
        refine hK10 _ _ ?_
        try clear hK10 K10
        refine AWp.mask [true, true, false, true] rfl ?_
        simp only [go_sem]
        refine AWp.cond _ rfl (fun hc3 => ?_) (fun hc3 => ?_)
        · skip
          try simp only [decide_eq_true_eq] at hc3
          have h4 : (angR t).1 ∈ s.tos := by simpa using hc3
          refine AWp.rs fun K11 hK11 => ?_
          try simp only [go_sem]
          refine hK11 _ _ ?_
          try clear hK11 K11
          refine AWp.ret ?_
          try simp only [thenQ, blkQ]
          apply endW_r [b7] [] [b] [] (by (try simp only [go_sem]); rfl)
          · rw [rcptS_4 h0 h1 h3 h4]
            exact ⟨rfl, by first | rfl | (simp only [go_sem, fb7]; done) | (simp only [go_sem, sob, anV, fb7]; rfl)⟩
          · simp [LeA, LeD]
        · skip
          try simp only [decide_eq_false_iff_not] at hc3
          have h4 : ¬ (angR t).1 ∈ s.tos := by simpa using hc3
          refine AWp.rs fun K12 hK12 => ?_
          try simp only [go_sem, fb7]
          refine hK12 _ _ ?_
          try clear hK12 K12
          refine AWp.mask [true, true, false, true] rfl ?_
          simp only [go_sem]
          refine AWp.cond _ rfl (fun hc4 => ?_) (fun hc4 => ?_)
          · skip
            try simp only [decide_eq_true_eq] at hc4
            have h5 : s.tos.length = 5 := by omega
            refine AWp.rs fun K13 hK13 => ?_
            try simp only [go_sem]
            refine hK13 _ _ ?_
            try clear hK13 K13
            refine AWp.ret ?_
            try simp only [thenQ, blkQ]
            apply endW_r [b7] [] [b] [] (by (try simp only [go_sem]); rfl)
            · rw [rcptS_5 h0 h1 h3 h4 h5]
              exact ⟨rfl, by first | rfl | (simp only [go_sem, fb7]; done) | (simp only [go_sem, sob, anV, fb7]; rfl)⟩
            · simp [LeA, LeD]
          · skip
            try simp only [decide_eq_false_iff_not] at hc4
            have h5 : ¬ s.tos.length = 5 := by omega
            refine AWp.skip ?_
            refine blkQ_n (thenQ_n ?_)
            refine hK3 _ _ ?_
            try clear hK3 K3
            refine AWp.rs fun K14 hK14 => ?_
            try simp only [go_sem, fb7]
            refine hK14 _ _ ?_
            try clear hK14 K14
            refine AWp.mask [true, true] rfl ?_
            simp only [go_sem]
            refine AWp.trees false (.seg 0 (.seg 1 (.seg 2 (.seg 3 (.seg 4 (.many (.alt 5 (.many (.alt 6 (.seg 7 (.seg 8 (.seg 9 (.seg 10 (.seg 11 (.seg 12 (.seg 13 .done))))))) (.alt 7 (.many (.alt 6 (.seg 8 (.seg 9 (.seg 10 (.seg 11 (.seg 12 (.seg 13 .done)))))) (.alt 8 (.seg 6 (.seg 9 (.seg 10 (.seg 11 (.seg 12 (.seg 13 .done)))))) .nil))) .nil))) (.alt 7 (.many (.alt 5 (.many (.alt 6 (.seg 8 (.seg 9 (.seg 10 (.seg 11 (.seg 12 (.seg 13 .done)))))) (.alt 8 (.seg 6 (.seg 9 (.seg 10 (.seg 11 (.seg 12 (.seg 13 .done)))))) .nil))) (.alt 8 (.seg 5 (.seg 6 (.seg 9 (.seg 10 (.seg 11 (.seg 12 (.seg 13 .done))))))) .nil))) .nil)))))))) rfl (by kernel_rfl) fun K15 hK15 => ?_
            try simp only [go_sem, fb7]
            refine ⟨?_, ?_⟩
            · skip
              refine ⟨?_, ?_⟩
              · skip
                refine DW.acp [] [] rfl rfl rfl rfl (by (try simp only [go_sem]); rfl) rfl (CloneA_c T s.tos (by omega) _ _) ?_
                rintro _ _ ⟨tc, ftc, rfl, rfl⟩
                try simp only [freshT] at ftc
                try simp only [go_sem, fb7]
                refine DW.app (tk := tc) rfl rfl rfl rfl (show slI Tryd.prog 24 = some (23, 2, 32) by simp only [go_sem]) rfl rfl (by simp [ftc]) (by first | exact .inl rfl | exact .inr rfl) (by (try simp only [go_sem, adsD_len, List.length_nil, List.length_cons]); first | done | omega) (by (try simp only [go_sem, adsD_len, List.length_nil, List.length_cons]); first | done | omega) fun t9 ft9 => ?_
                try simp only [freshT] at ft9
                try simp only [go_sem, fb7]
                refine hK15 _ _ ?_
                try clear hK15 K15
                refine AWp.mask [] rfl ?_
                simp only [go_sem]
                refine AWp.ord [] [] [b] [] (by (try simp only [go_sem, fb7]); rfl) ?_
                refine AWp.wk1 (rows' := [[.d (.int .i64 3), .d (.str s.fl), .d (.str s.fd), .d (.slc 2 (adsD (s.tos ++ [(angR t).1]))), .d (.str s.text), .d (.bool s.large)]]) (by simp [LeRows, LeL, LeA, LeD, AV.one, adsD, adD]) ?_
                · skip
                  refine AWp.rs fun K16 hK16 => ?_
                  try simp only [go_sem]
                  refine hK16 _ _ ?_
                  try clear hK16 K16
                  refine AWp.ret ?_
                  apply endW_r [b7] [t9] [b] [] (by (try simp only [go_sem]); rfl)
                  · rw [rcptS_6 h0 h1 h3 h4 h5]
                    exact ⟨rfl, by first | rfl | (simp only [go_sem, fb7]; done) | (simp only [go_sem, sob, anV, fb7, ftc, ft9]; rfl)⟩
                  · simp [LeA, LeD]
              · skip
                refine ⟨?_, ?_⟩
                · skip
                  refine DW.acp [] [] rfl rfl rfl rfl (by (try simp only [go_sem]); rfl) rfl (CloneA_c T s.tos (by omega) _ _) ?_
                  rintro _ _ ⟨tc, ftc, rfl, rfl⟩
                  try simp only [freshT] at ftc
                  try simp only [go_sem]
                  refine DW.app (tk := tc) rfl rfl rfl rfl (show slI Tryd.prog 24 = some (23, 2, 32) by simp only [go_sem]) rfl rfl (by simp [ftc]) (by first | exact .inl rfl | exact .inr rfl) (by (try simp only [go_sem, adsD_len, List.length_nil, List.length_cons]); first | done | omega) (by (try simp only [go_sem, adsD_len, List.length_nil, List.length_cons]); first | done | omega) fun t9 ft9 => ?_
                  try simp only [freshT] at ft9
                  try simp only [go_sem, fb7]
                  refine hK15 _ _ ?_
                  try clear hK15 K15
                  refine AWp.mask [] rfl ?_
                  simp only [go_sem]
                  refine AWp.ord [] [] [b] [] (by (try simp only [go_sem, fb7]); rfl) ?_
                  refine AWp.wk1 (rows' := [[.d (.int .i64 3), .d (.str s.fl), .d (.str s.fd), .d (.slc 2 (adsD (s.tos ++ [(angR t).1]))), .d (.str s.text), .d (.bool s.large)]]) (by simp [LeRows, LeL, LeA, LeD, AV.one, adsD, adD]) ?_
                  · skip
                    refine AWp.rs fun K17 hK17 => ?_
                    try simp only [go_sem]
                    refine hK17 _ _ ?_
                    try clear hK17 K17
                    refine AWp.ret ?_
                    apply endW_r [b7] [t9] [b] [] (by (try simp only [go_sem]); rfl)
                    · rw [rcptS_6 h0 h1 h3 h4 h5]
                      exact ⟨rfl, by first | rfl | (simp only [go_sem, fb7]; done) | (simp only [go_sem, sob, anV, fb7, ftc, ft9]; rfl)⟩
                    · simp [LeA, LeD]
                · skip
                  refine DW.acp [] [] rfl rfl rfl rfl (by (try simp only [go_sem]); rfl) rfl (CloneA_c T s.tos (by omega) _ _) ?_
                  rintro _ _ ⟨tc, ftc, rfl, rfl⟩
                  try simp only [freshT] at ftc
                  try simp only [go_sem]
                  refine DW.app (tk := tc) rfl rfl rfl rfl (show slI Tryd.prog 24 = some (23, 2, 32) by simp only [go_sem]) rfl rfl (by simp [ftc]) (by first | exact .inl rfl | exact .inr rfl) (by (try simp only [go_sem, adsD_len, List.length_nil, List.length_cons]); first | done | omega) (by (try simp only [go_sem, adsD_len, List.length_nil, List.length_cons]); first | done | omega) fun t9 ft9 => ?_
                  try simp only [freshT] at ft9
                  try simp only [go_sem, fb7]
                  refine hK15 _ _ ?_
                  try clear hK15 K15
                  refine AWp.mask [] rfl ?_
                  simp only [go_sem]
                  refine AWp.ord [] [] [b] [] (by (try simp only [go_sem, fb7]); rfl) ?_
                  refine AWp.wk1 (rows' := [[.d (.int .i64 3), .d (.str s.fl), .d (.str s.fd), .d (.slc 2 (adsD (s.tos ++ [(angR t).1]))), .d (.str s.text), .d (.bool s.large)]]) (by simp [LeRows, LeL, LeA, LeD, AV.one, adsD, adD]) ?_
                  · skip
                    refine AWp.rs fun K18 hK18 => ?_
                    try simp only [go_sem]
                    refine hK18 _ _ ?_
                    try clear hK18 K18
                    refine AWp.ret ?_
                    apply endW_r [b7] [t9] [b] [] (by (try simp only [go_sem]); rfl)
                    · rw [rcptS_6 h0 h1 h3 h4 h5]
                      exact ⟨rfl, by first | rfl | (simp only [go_sem, fb7]; done) | (simp only [go_sem, sob, anV, fb7, ftc, ft9]; rfl)⟩
                    · simp [LeA, LeD]
            · skip
              refine ⟨?_, ?_⟩
              · skip
                refine ⟨?_, ?_⟩
                · skip
                  refine DW.acp [] [] rfl rfl rfl rfl (by (try simp only [go_sem]); rfl) rfl (CloneA_c T s.tos (by omega) _ _) ?_
                  rintro _ _ ⟨tc, ftc, rfl, rfl⟩
                  try simp only [freshT] at ftc
                  try simp only [go_sem]
                  refine DW.app (tk := tc) rfl rfl rfl rfl (show slI Tryd.prog 24 = some (23, 2, 32) by simp only [go_sem]) rfl rfl (by simp [ftc]) (by first | exact .inl rfl | exact .inr rfl) (by (try simp only [go_sem, adsD_len, List.length_nil, List.length_cons]); first | done | omega) (by (try simp only [go_sem, adsD_len, List.length_nil, List.length_cons]); first | done | omega) fun t9 ft9 => ?_
                  try simp only [freshT] at ft9
                  try simp only [go_sem, fb7]
                  refine hK15 _ _ ?_
                  try clear hK15 K15
                  refine AWp.mask [] rfl ?_
                  simp only [go_sem]
                  refine AWp.ord [] [] [b] [] (by (try simp only [go_sem, fb7]); rfl) ?_
                  refine AWp.wk1 (rows' := [[.d (.int .i64 3), .d (.str s.fl), .d (.str s.fd), .d (.slc 2 (adsD (s.tos ++ [(angR t).1]))), .d (.str s.text), .d (.bool s.large)]]) (by simp [LeRows, LeL, LeA, LeD, AV.one, adsD, adD]) ?_
                  · skip
                    refine AWp.rs fun K19 hK19 => ?_
                    try simp only [go_sem]
                    refine hK19 _ _ ?_
                    try clear hK19 K19
                    refine AWp.ret ?_
                    apply endW_r [b7] [t9] [b] [] (by (try simp only [go_sem]); rfl)
                    · rw [rcptS_6 h0 h1 h3 h4 h5]
                      exact ⟨rfl, by first | rfl | (simp only [go_sem, fb7]; done) | (simp only [go_sem, sob, anV, fb7, ftc, ft9]; rfl)⟩
                    · simp [LeA, LeD]
                · skip
                  refine DW.acp [] [] rfl rfl rfl rfl (by (try simp only [go_sem]); rfl) rfl (CloneA_c T s.tos (by omega) _ _) ?_
                  rintro _ _ ⟨tc, ftc, rfl, rfl⟩
                  try simp only [freshT] at ftc
                  try simp only [go_sem]
                  refine DW.app (tk := tc) rfl rfl rfl rfl (show slI Tryd.prog 24 = some (23, 2, 32) by simp only [go_sem]) rfl rfl (by simp [ftc]) (by first | exact .inl rfl | exact .inr rfl) (by (try simp only [go_sem, adsD_len, List.length_nil, List.length_cons]); first | done | omega) (by (try simp only [go_sem, adsD_len, List.length_nil, List.length_cons]); first | done | omega) fun t9 ft9 => ?_
                  try simp only [freshT] at ft9
                  try simp only [go_sem, fb7]
                  refine hK15 _ _ ?_
                  try clear hK15 K15
                  refine AWp.mask [] rfl ?_
                  simp only [go_sem]
                  refine AWp.ord [] [] [b] [] (by (try simp only [go_sem, fb7]); rfl) ?_
                  refine AWp.wk1 (rows' := [[.d (.int .i64 3), .d (.str s.fl), .d (.str s.fd), .d (.slc 2 (adsD (s.tos ++ [(angR t).1]))), .d (.str s.text), .d (.bool s.large)]]) (by simp [LeRows, LeL, LeA, LeD, AV.one, adsD, adD]) ?_
                  · skip
                    refine AWp.rs fun K20 hK20 => ?_
                    try simp only [go_sem]
                    refine hK20 _ _ ?_
                    try clear hK20 K20
                    refine AWp.ret ?_
                    apply endW_r [b7] [t9] [b] [] (by (try simp only [go_sem]); rfl)
                    · rw [rcptS_6 h0 h1 h3 h4 h5]
                      exact ⟨rfl, by first | rfl | (simp only [go_sem, fb7]; done) | (simp only [go_sem, sob, anV, fb7, ftc, ft9]; rfl)⟩
                    · simp [LeA, LeD]
              · skip
                refine DW.acp [] [] rfl rfl rfl rfl (by (try simp only [go_sem]); rfl) rfl (CloneA_c T s.tos (by omega) _ _) ?_
                rintro _ _ ⟨tc, ftc, rfl, rfl⟩
                try simp only [freshT] at ftc
                try simp only [go_sem]
                refine DW.app (tk := tc) rfl rfl rfl rfl (show slI Tryd.prog 24 = some (23, 2, 32) by simp only [go_sem]) rfl rfl (by simp [ftc]) (by first | exact .inl rfl | exact .inr rfl) (by (try simp only [go_sem, adsD_len, List.length_nil, List.length_cons]); first | done | omega) (by (try simp only [go_sem, adsD_len, List.length_nil, List.length_cons]); first | done | omega) fun t9 ft9 => ?_
                try simp only [freshT] at ft9
                try simp only [go_sem, fb7]
                refine hK15 _ _ ?_
                try clear hK15 K15
                refine AWp.mask [] rfl ?_
                simp only [go_sem]
                refine AWp.ord [] [] [b] [] (by (try simp only [go_sem, fb7]); rfl) ?_
                refine AWp.wk1 (rows' := [[.d (.int .i64 3), .d (.str s.fl), .d (.str s.fd), .d (.slc 2 (adsD (s.tos ++ [(angR t).1]))), .d (.str s.text), .d (.bool s.large)]]) (by simp [LeRows, LeL, LeA, LeD, AV.one, adsD, adD]) ?_
                · skip
                  refine AWp.rs fun K21 hK21 => ?_
                  try simp only [go_sem]
                  refine hK21 _ _ ?_
                  try clear hK21 K21
                  refine AWp.ret ?_
                  apply endW_r [b7] [t9] [b] [] (by (try simp only [go_sem]); rfl)
                  · rw [rcptS_6 h0 h1 h3 h4 h5]
                    exact ⟨rfl, by first | rfl | (simp only [go_sem, fb7]; done) | (simp only [go_sem, sob, anV, fb7, ftc, ft9]; rfl)⟩
                  · simp [LeA, LeD]
end Go.Proofs.YthpkjmbdjnelfaaDoor

namespace Go.Proofs.YthpkjmbdjnelfaaDoor
set_option linter.unusedSimpArgs false
set_option linter.unusedVariables false
abbrev lhloW : Tx := [76, 72, 76, 79, 32]
abbrev mailW : Tx := [77, 65, 73, 76, 32, 70, 82, 79, 77, 58]
abbrev rcptW : Tx := [82, 67, 80, 84, 32, 84, 79, 58]
abbrev dataW : Tx := [100, 97, 116, 97]
abbrev rsetW : Tx := [114, 115, 101, 116]
abbrev noopW : Tx := [110, 111, 111, 112]
abbrev quitW : Tx := [113, 117, 105, 116]
abbrev sn0 (k : Int) : Sn := ⟨k, [], [], [], [], false⟩
/-- a session behind a line that is a command, and the code -/
def cmdL (known : List Tx) (line : Tx) (s : Sn) : Sn × Int :=
  if 300 < line.length then (s, 500)
  else if (preR line lhloW).2 = true then (if ¬ adrE [120] (preR line lhloW).1 = 0 then (s, 501) else (sn0 1, 250))
  else if (preR line mailW).2 = true then mailS (preR line mailW).1 s
  else if (preR line rcptW).2 = true then rcptS known (preR line rcptW).1 s
  else if line.map small = dataW then (if ¬ s.step = 3 then (s, 503) else (⟨4, s.fl, s.fd, s.tos, s.text, s.large⟩, 354))
  else if line.map small = rsetW then (sn0 (if 1 < s.step then 1 else s.step), 250)
  else if line.map small = noopW then (s, 250)
  else if line.map small = quitW then (sn0 5, 221) else (s, 500)
section
variable {known : List Tx} {line : Tx} {s : Sn}
theorem cm_0 (h : 300 < line.length) : cmdL known line s = (s, 500) := if_pos h
theorem cm_1 (h0 : ¬ 300 < line.length) (h1 : (preR line lhloW).2 = true) (h2 : ¬ adrE [120] (preR line lhloW).1 = 0) : cmdL known line s = (s, 501) := by rw [cmdL, if_neg h0, if_pos h1, if_pos h2]
theorem cm_2 (h0 : ¬ 300 < line.length) (h1 : (preR line lhloW).2 = true) (h2 : adrE [120] (preR line lhloW).1 = 0) : cmdL known line s = (sn0 1, 250) := by rw [cmdL, if_neg h0, if_pos h1, if_neg (fun h => h h2)]
theorem cm_3 (h0 : ¬ 300 < line.length) (h1 : ¬ (preR line lhloW).2 = true) (h3 : (preR line mailW).2 = true) : cmdL known line s = mailS (preR line mailW).1 s := by rw [cmdL, if_neg h0, if_neg h1, if_pos h3]
theorem cm_4 (h0 : ¬ 300 < line.length) (h1 : ¬ (preR line lhloW).2 = true) (h3 : ¬ (preR line mailW).2 = true) (h4 : (preR line rcptW).2 = true) : cmdL known line s = rcptS known (preR line rcptW).1 s := by rw [cmdL, if_neg h0, if_neg h1, if_neg h3, if_pos h4]
theorem cm_5 (h0 : ¬ 300 < line.length) (h1 : ¬ (preR line lhloW).2 = true) (h3 : ¬ (preR line mailW).2 = true) (h4 : ¬ (preR line rcptW).2 = true) : cmdL known line s = if line.map small = dataW then (if ¬ s.step = 3 then (s, 503) else (⟨4, s.fl, s.fd, s.tos, s.text, s.large⟩, 354)) else if line.map small = rsetW then (sn0 (if 1 < s.step then 1 else s.step), 250) else if line.map small = noopW then (s, 250) else if line.map small = quitW then (sn0 5, 221) else (s, 500) := by rw [cmdL, if_neg h0, if_neg h1, if_neg h3, if_neg h4]
end
set_option maxRecDepth 4000 in
set_option maxHeartbeats 1000000 in
theorem lmCmd_c (T : Tbl) (hL : LibT T) (known : List Tx) (hkn : known.length ≤ 1048576) (b : Nat) (s : Sn) (line : Tx) (hto : s.tos.length ≤ 5) (F : List (Nat × Ob)) (L : List Nat) : AC Tryd.prog T 28 [.ptr b 6 0 0, .d (.str line), .d (.slc 1 (known.map strD))] (⟨sob b s :: F, L⟩) (fun x h => x = .ret (.d (.int .i64 (cmdL known line s).2)) ∧ h = ⟨sob b (cmdL known line s).1 :: F, L⟩) := by
  refine ⟨Tryd.call28, ACalls.enterS Tryd.func28 rfl Tryd.ntmps28 rfl fun hb => ?_⟩
  simp only [go_sem, Tryd.results28]
  refine AWp.rs fun K1 hK1 => ?_
  try simp only [go_sem]
  refine hK1 _ _ ?_
  try clear hK1 K1
  refine AWp.seq fun K2 hK2 => ?_
  refine AWp.rs fun K3 hK3 => ?_
  try simp only [go_sem]
  refine hK3 _ _ ?_
  try clear hK3 K3
  refine AWp.cond _ rfl (fun hc0 => ?_) (fun hc0 => ?_)
  · skip
    try simp only [decide_eq_true_eq] at hc0
    have h0 : 300 < line.length := by omega
    refine AWp.rs fun K4 hK4 => ?_
    try simp only [go_sem]
    refine hK4 _ _ ?_
    try clear hK4 K4
    refine AWp.mask [false, false, false, true] rfl ?_
    simp only [go_sem]
    refine AWp.ret ?_
    try simp only [thenQ]
    apply endW_r [] [] [b] [] (by (try simp only [go_sem]); rfl)
    · rw [cm_0 h0]
      exact ⟨rfl, by first | rfl | (simp only [go_sem]; done) | (simp only [go_sem, sob]; rfl)⟩
    · simp [LeA, LeD]
  · skip
    try simp only [decide_eq_false_iff_not, Int.not_lt] at hc0
    have h0 : ¬ 300 < line.length := by omega
    have hpl : (preR line [76, 72, 76, 79, 32]).1.length ≤ line.length := preR_len line _
    refine AWp.skip ?_
    refine thenQ_n ?_
    refine hK2 _ _ ?_
    try clear hK2 K2
    refine AWp.mask [true, true, true] rfl ?_
    simp only [go_sem]
    refine AWp.seq fun K5 hK5 => ?_
    refine AWp.rs fun K6 hK6 => ?_
    try simp only [go_sem]
    refine DW.pcr rfl rfl rfl rfl (rest_c T _ _ (by omega) (by decide)) rfl rfl ?_
    try simp only [go_sem]
    refine hK6 _ _ ?_
    try clear hK6 K6
    refine AWp.mask [true, true, true, true, true] rfl ?_
    simp only [go_sem]
    refine AWp.rs fun K7 hK7 => ?_
    try simp only [go_sem]
    refine hK7 _ _ ?_
    try clear hK7 K7
    refine AWp.cond _ rfl (fun hc1 => ?_) (fun hc1 => ?_)
    · skip
      refine AWp.seq fun K8 hK8 => ?_
      refine AWp.rs fun K9 hK9 => ?_
      try simp only [go_sem]
      refine DW.pcr rfl rfl rfl rfl (whoCheck_p T hL _ _ (by decide) (by have := hpl; omega)) rfl rfl ?_
      try simp only [go_sem]
      refine hK9 _ _ ?_
      try clear hK9 K9
      refine AWp.mask [true, false, false, false, false, false, false, false, false, true] rfl ?_
      simp only [go_sem]
      refine AWp.cond _ rfl (fun hc2 => ?_) (fun hc2 => ?_)
      · skip
        try simp only [decide_eq_false_iff_not, Bool.not_eq_true'] at hc2
        refine AWp.rs fun K10 hK10 => ?_
        try simp only [go_sem]
        refine hK10 _ _ ?_
        try clear hK10 K10
        refine AWp.ret ?_
        try simp only [thenQ]
        apply endW_r [] [] [b] [] (by (try simp only [go_sem]); rfl)
        · rw [cm_1 h0 hc1 hc2]
          exact ⟨rfl, by first | rfl | (simp only [go_sem]; done) | (simp only [go_sem, sob]; rfl)⟩
        · simp [LeA, LeD]
      · skip
        try simp only [decide_eq_true_eq, Bool.not_eq_false'] at hc2
        have h2 : adrE [120] (preR line lhloW).1 = 0 := by omega
        refine AWp.skip ?_
        refine thenQ_n ?_
        refine hK8 _ _ ?_
        try clear hK8 K8
        refine AWp.rs fun K11 hK11 => ?_
        try simp only [go_sem]
        refine hK11 _ _ ?_
        try clear hK11 K11
        refine AWp.mask [] rfl ?_
        simp only [go_sem]
        refine AWp.wk1 (rows' := [[.d (.int .i64 1), .d (.str []), .d (.str []), .d (.slc 2 (adsD [])), .d (.str []), .d (.bool false)]]) (by simp [LeRows, LeL, LeA, LeD, AV.one, adsD]) ?_
        · skip
          refine AWp.rs fun K12 hK12 => ?_
          try simp only [go_sem]
          refine hK12 _ _ ?_
          try clear hK12 K12
          refine AWp.ret ?_
          try simp only [thenQ]
          apply endW_r [] [] [b] [] (by (try simp only [go_sem]); rfl)
          · rw [cm_2 h0 hc1 h2]
            exact ⟨rfl, by first | rfl | (simp only [go_sem]; done) | (simp only [go_sem, sob]; rfl)⟩
          · simp [LeA, LeD]
    · skip
      have hc1 : ¬ (preR line lhloW).2 = true := by simpa using hc1
      refine AWp.skip ?_
      refine thenQ_n ?_
      refine hK5 _ _ ?_
      try clear hK5 K5
      refine AWp.seq fun K13 hK13 => ?_
      refine AWp.rs fun K14 hK14 => ?_
      try simp only [go_sem]
      refine DW.pcr rfl rfl rfl rfl (rest_c T _ _ (by omega) (by decide)) rfl rfl ?_
      try simp only [go_sem]
      refine hK14 _ _ ?_
      try clear hK14 K14
      refine AWp.mask [true, true, true, false, false, true, true] rfl ?_
      simp only [go_sem]
      refine AWp.rs fun K15 hK15 => ?_
      try simp only [go_sem]
      refine hK15 _ _ ?_
      try clear hK15 K15
      refine AWp.cond _ rfl (fun hc3 => ?_) (fun hc3 => ?_)
      · skip
        refine AWp.rs fun K16 hK16 => ?_
        try simp only [go_sem]
        refine DW.acp [b] [] rfl rfl rfl rfl (by (try simp only [go_sem, sob]); rfl) rfl (mail_c T hL b s (preR line mailW).1 _ _) ?_
        rintro _ _ ⟨rfl, rfl⟩
        try simp only [go_sem, sob]
        refine hK16 _ _ ?_
        try clear hK16 K16
        refine AWp.mask [false, false, false, true] rfl ?_
        simp only [go_sem]
        refine AWp.ret ?_
        try simp only [thenQ]
        apply endW_r [] [] [b] [] (by (try simp only [go_sem]); rfl)
        · rw [cm_3 h0 hc1 hc3]
          exact ⟨rfl, by first | rfl | (simp only [go_sem]; done) | (simp only [go_sem, sob]; rfl)⟩
        · simp [LeA, LeD]
      · skip
        have hc3 : ¬ (preR line mailW).2 = true := by simpa using hc3
        refine AWp.skip ?_
        refine thenQ_n ?_
        refine hK13 _ _ ?_
        try clear hK13 K13
        refine AWp.seq fun K17 hK17 => ?_
        refine AWp.rs fun K18 hK18 => ?_
        try simp only [go_sem]
        refine DW.pcr rfl rfl rfl rfl (rest_c T _ _ (by omega) (by decide)) rfl rfl ?_
        try simp only [go_sem]
        refine hK18 _ _ ?_
        try clear hK18 K18
        refine AWp.mask [true, true, true, false, false, true, true] rfl ?_
        simp only [go_sem]
        refine AWp.rs fun K19 hK19 => ?_
        try simp only [go_sem]
        refine hK19 _ _ ?_
        try clear hK19 K19
        refine AWp.cond _ rfl (fun hc4 => ?_) (fun hc4 => ?_)
        · skip
          refine AWp.rs fun K20 hK20 => ?_
          try simp only [go_sem]
          refine DW.acp [b] [] rfl rfl rfl rfl (by (try simp only [go_sem, sob]); rfl) rfl (rcpt_c T hL known hkn b s (preR line rcptW).1 hto _ _) ?_
          rintro _ _ ⟨rfl, rfl⟩
          try simp only [go_sem, sob]
          refine hK20 _ _ ?_
          try clear hK20 K20
          refine AWp.mask [false, false, false, true] rfl ?_
          simp only [go_sem]
          refine AWp.ret ?_
          try simp only [thenQ]
          apply endW_r [] [] [b] [] (by (try simp only [go_sem]); rfl)
          · rw [cm_4 h0 hc1 hc3 hc4]
            exact ⟨rfl, by first | rfl | (simp only [go_sem]; done) | (simp only [go_sem, sob]; rfl)⟩
          · simp [LeA, LeD]
        · skip
          have hc4 : ¬ (preR line rcptW).2 = true := by simpa using hc4
          refine AWp.skip ?_
          refine thenQ_n ?_
          refine hK17 _ _ ?_
          try clear hK17 K17
          refine AWp.mask [true, true] rfl ?_
          simp only [go_sem]
          refine AWp.rs fun K21 hK21 => ?_
          try simp only [go_sem]
          refine DW.pcr rfl rfl rfl rfl (Fold_c T _ (by omega)) rfl rfl ?_
          try simp only [go_sem]
          refine hK21 _ _ ?_
          try clear hK21 K21
          refine AWp.mask [true, false, true] rfl ?_
          simp only [go_sem]
          refine AWp.seq fun K22 hK22 => ?_
          refine AWp.rs fun K23 hK23 => ?_
          try simp only [go_sem]
          refine hK23 _ _ ?_
          try clear hK23 K23
          refine AWp.block ?_
          refine AWp.rs fun K24 hK24 => ?_
          try simp only [go_sem]
          refine hK24 _ _ ?_
          try clear hK24 K24
          refine AWp.cond _ rfl (fun hc5 => ?_) (fun hc5 => ?_)
          · skip
            try simp only [decide_eq_true_eq] at hc5
            refine AWp.seq fun K25 hK25 => ?_
            refine AWp.rs fun K26 hK26 => ?_
            try simp only [go_sem]
            refine hK26 _ _ ?_
            try clear hK26 K26
            refine AWp.mask [true, false, false, false, false, false, false, false, false, false, true] rfl ?_
            simp only [go_sem]
            refine AWp.cond _ rfl (fun hc6 => ?_) (fun hc6 => ?_)
            · skip
              try simp only [decide_eq_false_iff_not, Bool.not_eq_true'] at hc6
              refine AWp.rs fun K27 hK27 => ?_
              try simp only [go_sem]
              refine hK27 _ _ ?_
              try clear hK27 K27
              refine AWp.ret ?_
              try simp only [thenQ, blkQ]
              apply endW_r [] [] [b] [] (by (try simp only [go_sem]); rfl)
              · rw [cm_5 h0 hc1 hc3 hc4, if_pos hc5, if_pos hc6]
                exact ⟨rfl, by first | rfl | (simp only [go_sem]; done) | (simp only [go_sem, sob]; rfl)⟩
              · simp [LeA, LeD]
            · skip
              try simp only [decide_eq_true_eq, Bool.not_eq_false'] at hc6
              have h6 : ¬ ¬ s.step = 3 := by omega
              refine AWp.skip ?_
              refine thenQ_n ?_
              refine hK25 _ _ ?_
              try clear hK25 K25
              refine AWp.rs fun K28 hK28 => ?_
              try simp only [go_sem]
              refine hK28 _ _ ?_
              try clear hK28 K28
              refine AWp.mask [] rfl ?_
              simp only [go_sem]
              refine AWp.rs fun K29 hK29 => ?_
              try simp only [go_sem]
              refine hK29 _ _ ?_
              try clear hK29 K29
              refine AWp.ret ?_
              try simp only [thenQ, blkQ]
              apply endW_r [] [] [b] [] (by (try simp only [go_sem]); rfl)
              · rw [cm_5 h0 hc1 hc3 hc4, if_pos hc5, if_neg h6]
                exact ⟨rfl, by first | rfl | (simp only [go_sem]; done) | (simp only [go_sem, sob]; rfl)⟩
              · simp [LeA, LeD]
          · skip
            try simp only [decide_eq_false_iff_not] at hc5
            refine AWp.rs fun K30 hK30 => ?_
            try simp only [go_sem]
            refine hK30 _ _ ?_
            try clear hK30 K30
            refine AWp.mask [true, false, true, false, false, true] rfl ?_
            simp only [go_sem]
            refine AWp.cond _ rfl (fun hc7 => ?_) (fun hc7 => ?_)
            · skip
              try simp only [decide_eq_true_eq] at hc7
              refine AWp.rs fun K31 hK31 => ?_
              try simp only [go_sem]
              refine hK31 _ _ ?_
              try clear hK31 K31
              refine AWp.mask [] rfl ?_
              simp only [go_sem]
              refine AWp.wk1 (rows' := [[.d (.int .i64 (if 1 < s.step then 1 else s.step)), .d (.str []), .d (.str []), .d (.slc 2 (adsD [])), .d (.str []), .d (.bool false)]]) (by simp [LeRows, LeL, LeA, LeD, AV.one, adsD]) ?_
              · skip
                refine AWp.rs fun K32 hK32 => ?_
                try simp only [go_sem]
                refine hK32 _ _ ?_
                try clear hK32 K32
                refine AWp.ret ?_
                try simp only [thenQ, blkQ]
                apply endW_r [] [] [b] [] (by (try simp only [go_sem]); rfl)
                · rw [cm_5 h0 hc1 hc3 hc4, if_neg hc5, if_pos hc7]
                  exact ⟨rfl, by first | rfl | (simp only [go_sem]; done) | (simp only [go_sem, sob]; rfl)⟩
                · simp [LeA, LeD]
            · skip
              try simp only [decide_eq_false_iff_not] at hc7
              refine AWp.rs fun K33 hK33 => ?_
              try simp only [go_sem]
              refine hK33 _ _ ?_
              try clear hK33 K33
              refine AWp.cond _ rfl (fun hc8 => ?_) (fun hc8 => ?_)
              · skip
                try simp only [decide_eq_true_eq] at hc8
                refine AWp.rs fun K34 hK34 => ?_
                try simp only [go_sem]
                refine hK34 _ _ ?_
                try clear hK34 K34
                refine AWp.mask [false, true] rfl ?_
                simp only [go_sem]
                refine AWp.ret ?_
                try simp only [thenQ, blkQ]
                apply endW_r [] [] [b] [] (by (try simp only [go_sem]); rfl)
                · rw [cm_5 h0 hc1 hc3 hc4, if_neg hc5, if_neg hc7, if_pos hc8]
                  exact ⟨rfl, by first | rfl | (simp only [go_sem]; done) | (simp only [go_sem, sob]; rfl)⟩
                · simp [LeA, LeD]
              · skip
                try simp only [decide_eq_false_iff_not] at hc8
                refine AWp.rs fun K35 hK35 => ?_
                try simp only [go_sem]
                refine hK35 _ _ ?_
                try clear hK35 K35
                refine AWp.mask [true, false, false, false, false, true] rfl ?_
                simp only [go_sem]
                refine AWp.cond _ rfl (fun hc9 => ?_) (fun hc9 => ?_)
                · skip
                  try simp only [decide_eq_true_eq] at hc9
                  refine AWp.rs fun K36 hK36 => ?_
                  try simp only [go_sem]
                  refine hK36 _ _ ?_
                  try clear hK36 K36
                  refine AWp.mask [] rfl ?_
                  simp only [go_sem]
                  refine AWp.wk1 (rows' := [[.d (.int .i64 5), .d (.str []), .d (.str []), .d (.slc 2 (adsD [])), .d (.str []), .d (.bool false)]]) (by simp [LeRows, LeL, LeA, LeD, AV.one, adsD]) ?_
                  · skip
                    refine AWp.rs fun K37 hK37 => ?_
                    try simp only [go_sem]
                    refine hK37 _ _ ?_
                    try clear hK37 K37
                    refine AWp.ret ?_
                    try simp only [thenQ, blkQ]
                    apply endW_r [] [] [b] [] (by (try simp only [go_sem]); rfl)
                    · rw [cm_5 h0 hc1 hc3 hc4, if_neg hc5, if_neg hc7, if_neg hc8, if_pos hc9]
                      exact ⟨rfl, by first | rfl | (simp only [go_sem]; done) | (simp only [go_sem, sob]; rfl)⟩
                    · simp [LeA, LeD]
                · skip
                  try simp only [decide_eq_false_iff_not] at hc9
                  refine AWp.skip ?_
                  refine blkQ_n (thenQ_n ?_)
                  refine hK22 _ _ ?_
                  try clear hK22 K22
                  refine AWp.rs fun K38 hK38 => ?_
                  try simp only [go_sem]
                  refine hK38 _ _ ?_
                  try clear hK38 K38
                  refine AWp.ret ?_
                  apply endW_r [] [] [b] [] (by (try simp only [go_sem]); rfl)
                  · rw [cm_5 h0 hc1 hc3 hc4, if_neg hc5, if_neg hc7, if_neg hc8, if_neg hc9]
                    exact ⟨rfl, by first | rfl | (simp only [go_sem]; done) | (simp only [go_sem, sob]; rfl)⟩
                  · simp [LeA, LeD]
def trimS (line : Tx) : Tx := if 1 ≤ line.length ∧ line.take 1 = [46] then line.drop 1 else line
theorem trim_len (l : Tx) : (trimS l).length ≤ l.length := by unfold trimS; split <;> simp
def bodyS (line : Tx) (s : Sn) : Sn := if s.large = true ∨ 1998 < s.text.length + (trimS line).length then ⟨s.step, s.fl, s.fd, s.tos, s.text, true⟩ else ⟨s.step, s.fl, s.fd, s.tos, s.text ++ (trimS line ++ [13, 10]), s.large⟩
theorem bodyS_1 {line : Tx} {s : Sn} (h : s.large = true ∨ 1998 < s.text.length + (trimS line).length) : bodyS line s = ⟨s.step, s.fl, s.fd, s.tos, s.text, true⟩ := if_pos h
theorem bodyS_2 {line : Tx} {s : Sn} (h : ¬ (s.large = true ∨ 1998 < s.text.length + (trimS line).length)) : bodyS line s = ⟨s.step, s.fl, s.fd, s.tos, s.text ++ (trimS line ++ [13, 10]), s.large⟩ := if_neg h
set_option maxRecDepth 4000 in
set_option maxHeartbeats 1000000 in
theorem hasPre_c (T : Tbl) (s : Tx) (hs : s.length ≤ 1048576) : PC Tryd.prog T 154 [.d (.str s), .d (.str ([46]))] (.d (.bool (decide (1 ≤ s.length ∧ s.take 1 = [46])))) := by
  refine ⟨Tryd.call154, PCall.enterS Tryd.func154 rfl Tryd.ntmps154 rfl fun hb => ?_⟩
  simp only [go_sem, Tryd.results154]
  refine AWp.rs fun K1 hK1 => ?_
  try simp only [go_sem]
  refine hK1 _ _ ?_
  try clear hK1 K1
  rcases Nat.lt_or_ge s.length 1 with hw | hw
  · skip
    have hw2 : ((1 : Int) ≤ (s.length : Int)) = False := by simp; omega
    refine AWp.rs fun K2 hK2 => ?_
    try simp only [go_sem, true_and]
    (repeat (with_reducible refine And.intro ?_ ?_; (intro hg; simp at hg ⊢; first | omega | exact hg | grind)))
    refine hK2 _ _ ?_
    try clear hK2 K2
    refine AWp.mask [false, false, true] rfl ?_
    simp only [go_sem]
    refine AWp.ret ?_
    try simp only [go_sem]
    rw [decide_eq_false (show ¬ (1 ≤ s.length ∧ s.take 1 = [46]) from fun h => by omega)]; try simp []; try (intro h9; omega)
  · skip
    have hw2 : ((1 : Int) ≤ (s.length : Int)) = True := by simp; omega
    refine AWp.rs fun K2 hK2 => ?_
    try simp only [go_sem]
    (repeat (with_reducible refine And.intro ?_ ?_; (intro hg; refine ⟨hg, ?_⟩; omega)))
    refine hK2 _ _ ?_
    try clear hK2 K2
    refine AWp.mask [false, false, true] rfl ?_
    simp only [go_sem]
    refine AWp.ret ?_
    try simp only [go_sem]
    simp [hw]; try (intro _; omega)
set_option maxRecDepth 4000 in
set_option maxHeartbeats 1000000 in
theorem trimL_c (T : Tbl) (s : Tx) (hs : s.length ≤ 1048576) : PC Tryd.prog T 126 [.d (.str s), .d (.str ([46]))] (.d (.str (trimS s))) := by
  refine ⟨Tryd.call126, PCall.enterS Tryd.func126 rfl Tryd.ntmps126 rfl fun hb => ?_⟩
  simp only [go_sem, Tryd.results126]
  refine AWp.rs fun K1 hK1 => ?_
  try simp only [go_sem]
  refine hK1 _ _ ?_
  try clear hK1 K1
  refine AWp.seq fun K2 hK2 => ?_
  refine AWp.rs fun K3 hK3 => ?_
  try simp only [go_sem]
  refine DW.pcr rfl rfl rfl rfl (hasPre_c T s hs) rfl rfl ?_
  try simp only [go_sem]
  refine hK3 _ _ ?_
  try clear hK3 K3
  refine AWp.cond _ rfl (fun hc0 => ?_) (fun hc0 => ?_)
  · skip
    try simp only [decide_eq_true_eq] at hc0
    refine AWp.rs fun K4 hK4 => ?_
    try simp only [go_sem]
    (repeat (with_reducible refine And.intro ?_ ?_; omega))
    refine hK4 _ _ ?_
    try clear hK4 K4
    refine AWp.mask [false, false, true] rfl ?_
    simp only [go_sem]
    refine AWp.ret ?_
    try simp only [go_sem]
    rw [trimS, if_pos hc0]; try simp []
  · skip
    try simp only [decide_eq_false_iff_not] at hc0
    refine AWp.skip ?_
    refine thenQ_n ?_
    refine hK2 _ _ ?_
    try clear hK2 K2
    refine AWp.mask [true] rfl ?_
    simp only [go_sem]
    refine AWp.rs fun K5 hK5 => ?_
    try simp only [go_sem]
    refine hK5 _ _ ?_
    try clear hK5 K5
    refine AWp.ret ?_
    try simp only [go_sem]
    rw [trimS, if_neg (by simpa using hc0)]; try simp [LeA, LeD]
set_option maxRecDepth 4000 in
set_option maxHeartbeats 1000000 in
theorem trim_c (T : Tbl) (s : Tx) (hs : s.length ≤ 1048576) : PC Tryd.prog T 62 [.d (.str s), .d (.str ([46]))] (.d (.str (trimS s))) := by
  refine ⟨Tryd.call62, PCall.enterS Tryd.func62 rfl Tryd.ntmps62 rfl fun hb => ?_⟩
  simp only [go_sem, Tryd.results62]
  refine AWp.rs fun K1 hK1 => ?_
  try simp only [go_sem]
  refine hK1 _ _ ?_
  try clear hK1 K1
  refine AWp.rs fun K2 hK2 => ?_
  try simp only [go_sem]
  refine DW.pcr rfl rfl rfl rfl (trimL_c T s hs) rfl rfl ?_
  try simp only [go_sem]
  refine hK2 _ _ ?_
  try clear hK2 K2
  refine AWp.mask [false, false, true] rfl ?_
  simp only [go_sem]
  refine AWp.ret ?_
  try simp only [go_sem]
  try simp [LeA, LeD]
set_option maxRecDepth 4000 in
set_option maxHeartbeats 1000000 in
theorem lmBody_c (T : Tbl) (b : Nat) (s : Sn) (line : Tx) (hln : line.length ≤ 1048576) (htx : s.text.length ≤ 2000) (F : List (Nat × Ob)) (L : List Nat) : AC Tryd.prog T 29 [.ptr b 6 0 0, .d (.str line)] (⟨sob b s :: F, L⟩) (fun x h => x = .ret (.tup []) ∧ h = ⟨sob b (bodyS line s) :: F, L⟩) := by
  refine ⟨Tryd.call29, ACalls.enterS Tryd.func29 rfl Tryd.ntmps29 rfl fun hb => ?_⟩
  have htl := trim_len line
  simp only [go_sem, Tryd.results29]
  refine AWp.rs fun K1 hK1 => ?_
  try simp only [go_sem]
  refine DW.pcr rfl rfl rfl rfl (trim_c T line hln) rfl rfl ?_
  try simp only [go_sem]
  refine hK1 _ _ ?_
  try clear hK1 K1
  refine AWp.seq fun K2 hK2 => ?_
  refine AWp.rs fun K3 hK3 => ?_
  try simp only [go_sem]
  (repeat (with_reducible refine And.intro ?_ ?_; omega))
  refine hK3 _ _ ?_
  try clear hK3 K3
  refine AWp.mask [true, true, false, false, false, false, false, false, false, false, false, false, false, false, true] rfl ?_
  simp only [go_sem]
  refine AWp.cond _ rfl (fun hc0 => ?_) (fun hc0 => ?_)
  · skip
    try simp only [decide_eq_true_eq] at hc0
    have h0 : s.large = true ∨ 1998 < s.text.length + (trimS line).length := by omega
    refine AWp.rk fun K4 hK4 => ?_
    try simp only [go_sem]
    refine hK4 _ _ ?_
    try clear hK4 K4
    refine thenQ_n ?_
    refine hK2 _ _ ?_
    try clear hK2 K2
    refine AWp.mask [true, true] rfl ?_
    simp only [go_sem]
    refine AWp.rs fun K5 hK5 => ?_
    try simp only [go_sem]
    refine hK5 _ _ ?_
    try clear hK5 K5
    refine AWp.mask [true, true, false, false, false, false, false, true] rfl ?_
    simp only [go_sem]
    refine AWp.cond _ rfl (fun hc1 => ?_) (fun hc1 => ?_)
    · skip
      exact absurd hc1 (by simp)
    · skip
      try simp only [Bool.not_eq_false'] at hc1
      refine AWp.skip ?_
      apply endW_n [] [] [b] [] (by (try simp only [go_sem]); rfl)
      · rw [bodyS_1 h0]
        exact ⟨rfl, by first | rfl | (simp only [go_sem]; done) | (simp only [go_sem, sob]; rfl) | (simp [go_sem, sob, htl]; done)⟩
      · simp [LeA, LeL]
  · skip
    try simp only [decide_eq_false_iff_not, Int.not_lt] at hc0
    refine AWp.skip ?_
    refine thenQ_n ?_
    refine hK2 _ _ ?_
    try clear hK2 K2
    refine AWp.rs fun K6 hK6 => ?_
    try simp only [go_sem]
    refine hK6 _ _ ?_
    try clear hK6 K6
    refine AWp.mask [true, true, false, false, false, false, false, false, true] rfl ?_
    simp only [go_sem]
    refine AWp.cond _ rfl (fun hc1 => ?_) (fun hc1 => ?_)
    · skip
      try simp only [Bool.not_eq_true'] at hc1
      have h1 : ¬ (s.large = true ∨ 1998 < s.text.length + (trimS line).length) := by rintro (h9 | h9); simp [h9] at hc1; omega
      refine AWp.rk fun K7 hK7 => ?_
      try simp only [go_sem]
      (repeat (with_reducible refine And.intro ?_ ?_; (first | omega | (simp; omega))))
      refine hK7 _ _ ?_
      try clear hK7 K7
      apply endW_n [] [] [b] [] (by (try simp only [go_sem]); rfl)
      · rw [bodyS_2 h1]
        exact ⟨rfl, by first | rfl | (simp only [go_sem]; done) | (simp only [go_sem, sob]; rfl) | (simp [go_sem, sob, hc1]; done)⟩
      · simp [LeA, LeL]
    · skip
      try simp only [Bool.not_eq_false'] at hc1
      refine AWp.skip ?_
      apply endW_n [] [] [b] [] (by (try simp only [go_sem]); rfl)
      · rw [bodyS_1 (.inl (by simpa using hc1))]
        exact ⟨rfl, by first | rfl | (simp only [go_sem]; done) | (simp only [go_sem]; rfl) | (simp [go_sem, hc1]; done)⟩
      · simp [LeA, LeL]
end Go.Proofs.YthpkjmbdjnelfaaDoor

namespace Go.Proofs.YthpkjmbdjnelfaaDoor
set_option linter.unusedSimpArgs false
set_option linter.unusedVariables false
theorem sesV_inv {s : Sn} (h : sesV s = 0) : OkS s := by
  apply Classical.byContradiction
  intro h9
  rw [sesV_no h9] at h
  cases h
def letD (s : Sn) (a : Ad) : List D := [.str s.fl, .str s.fd, .str a.1, .str a.2, .str s.text]
noncomputable def lineR (known : List Tx) (line : Tx) (s : Sn) : Sn × Int × List (List D) × Int :=
  if ¬ sesV s = 0 then (sn0 0, 0, [], sesV s)
  else if s.step = 5 then (s, 0, [], 0)
  else if ¬ s.step = 4 then ((cmdL known line s).1, (cmdL known line s).2, [], 0)
  else if ¬ line = [46] then (bodyS line s, 0, [], 0)
  else (sn0 1, 0, s.tos.map (letD s), 0)
def linV (r : Sn × Int × List (List D) × Int) : AV := .tup [.agg (snA r.1), .d (.int .i64 r.2.1), .d (.slc 5 r.2.2.1), .d (.int .i64 r.2.2.2)]
section
variable {known : List Tx} {line : Tx} {s : Sn}
theorem lineR_0 (h : ¬ sesV s = 0) : lineR known line s = (sn0 0, 0, [], sesV s) := if_pos h
theorem lineR_1 (h0 : sesV s = 0) (h : s.step = 5) : lineR known line s = (s, 0, [], 0) := by rw [lineR, if_neg (fun h9 => h9 h0), if_pos h]
theorem lineR_2 (h0 : sesV s = 0) (h1 : ¬ s.step = 5) (h2 : ¬ s.step = 4) : lineR known line s = ((cmdL known line s).1, (cmdL known line s).2, [], 0) := by rw [lineR, if_neg (fun h9 => h9 h0), if_neg h1, if_pos h2]
theorem lineR_3 (h0 : sesV s = 0) (h1 : ¬ s.step = 5) (h2 : s.step = 4) (h3 : ¬ line = [46]) : lineR known line s = (bodyS line s, 0, [], 0) := by rw [lineR, if_neg (fun h9 => h9 h0), if_neg h1, if_neg (fun h9 => h9 h2), if_pos h3]
theorem lineR_4 (h0 : sesV s = 0) (h1 : ¬ s.step = 5) (h2 : s.step = 4) (h3 : line = [46]) : lineR known line s = (sn0 1, 0, s.tos.map (letD s), 0) := by rw [lineR, if_neg (fun h9 => h9 h0), if_neg h1, if_neg (fun h9 => h9 h2), if_neg (fun h9 => h9 h3)]
end
theorem take_snoc {α : Type} (l : List α) (k : Nat) (h : k < l.length) : l.take k ++ [l[k]] = l.take (k + 1) := (List.take_succ_eq_append_getElem h).symm
set_option maxRecDepth 4000 in
set_option maxHeartbeats 1000000 in
theorem Line_c (T : Tbl) (hL : LibT T) (known : List Tx) (hkn : known.length ≤ 1048576) (line : Tx) (hln : line.length ≤ 1048576) (s : Sn) (hB : SnB s) : PC Tryd.prog T 9 [.agg [.d (.int .i64 s.step), .d (.str s.fl), .d (.str s.fd), .d (.slc 2 (adsD s.tos)), .d (.str s.text), .d (.bool s.large)], .d (.slc 1 (known.map strD)), .d (.str line)] (linV (lineR known line s)) := by
  refine ⟨Tryd.call9, PCall.enterS Tryd.func9 rfl Tryd.ntmps9 rfl fun hb => ?_⟩
  simp only [go_sem, Tryd.results9]
  refine AWp.rs fun K1 hK1 => ?_
  try simp only [go_sem]
  intro b3
  first | intro fb3 | have fb3 := True.intro
  try simp only [freshL] at fb3
  intro b6
  first | intro fb6 | have fb6 := True.intro
  try simp only [freshL] at fb6
  refine hK1 _ _ ?_
  try clear hK1 K1
  refine AWp.mask [false, true, true, true, true] rfl ?_
  simp only [go_sem]
  refine AWp.seq fun K2 hK2 => ?_
  refine AWp.rs fun K3 hK3 => ?_
  try simp only [go_sem, fb6]
  refine DW.pcr rfl rfl rfl rfl (lmCheck_c T hL s hB) rfl rfl ?_
  try simp only [go_sem]
  refine hK3 _ _ ?_
  try clear hK3 K3
  refine AWp.rs fun K4 hK4 => ?_
  try simp only [go_sem]
  refine hK4 _ _ ?_
  try clear hK4 K4
  refine AWp.cond _ rfl (fun hc0 => ?_) (fun hc0 => ?_)
  · skip
    try simp only [decide_eq_false_iff_not, Bool.not_eq_true'] at hc0
    refine AWp.rs fun K5 hK5 => ?_
    try simp only [go_sem, fb6]
    refine hK5 _ _ ?_
    try clear hK5 K5
    refine AWp.mask [false, false, false, true, true, true, true] rfl ?_
    simp only [go_sem]
    refine AWp.ret ?_
    try simp only [go_sem, fb6]
    rw [lineR_0 hc0]; simp [linV, snA, LeA, LeL, LeD, adsD]
  · skip
    try simp only [decide_eq_true_eq, Bool.not_eq_false'] at hc0
    have h0 : sesV s = 0 := by omega
    obtain ⟨k1, k2, k3, k4, k5, k6, k7, k8, k9⟩ := sesV_inv h0
    refine AWp.skip ?_
    refine thenQ_n ?_
    refine hK2 _ _ ?_
    try clear hK2 K2
    refine AWp.mask [true, true, true, true] rfl ?_
    simp only [go_sem]
    refine AWp.rs fun K6 hK6 => ?_
    try simp only [go_sem, fb6]
    intro b11
    first | intro fb11 | have fb11 := True.intro
    try simp only [freshL] at fb11
    refine hK6 _ _ ?_
    try clear hK6 K6
    refine AWp.rs fun K7 hK7 => ?_
    try simp only [go_sem, fb6, fb11]
    refine DW.pcr rfl rfl rfl rfl (CloneA_p T s.tos hB.c) rfl rfl ?_
    try simp only [go_sem, fb11]
    refine hK7 _ _ ?_
    try clear hK7 K7
    refine AWp.mask [true, true, true, true, true] rfl ?_
    simp only [go_sem]
    refine AWp.seq fun K8 hK8 => ?_
    refine AWp.block ?_
    refine AWp.rs fun K9 hK9 => ?_
    try simp only [go_sem, fb6, fb11]
    refine hK9 _ _ ?_
    try clear hK9 K9
    refine AWp.cond _ rfl (fun hc1 => ?_) (fun hc1 => ?_)
    · skip
      try simp only [decide_eq_true_eq] at hc1
      refine AWp.rs fun K10 hK10 => ?_
      try simp only [go_sem, fb6, fb11]
      refine hK10 _ _ ?_
      try clear hK10 K10
      refine AWp.mask [false, false, false, true, true, true, true] rfl ?_
      simp only [go_sem]
      refine AWp.ret ?_
      try simp only [go_sem, fb6, fb11]
      rw [lineR_1 h0 hc1]; simp [linV, snA, LeA, LeL, LeD, adsD]
    · skip
      try simp only [decide_eq_false_iff_not] at hc1
      refine AWp.rs fun K11 hK11 => ?_
      try simp only [go_sem, fb6, fb11]
      refine hK11 _ _ ?_
      try clear hK11 K11
      refine AWp.mask [true, true, true, true, true, false, false, false, false, true] rfl ?_
      simp only [go_sem]
      refine AWp.cond _ rfl (fun hc2 => ?_) (fun hc2 => ?_)
      · skip
        try simp only [decide_eq_false_iff_not, Bool.not_eq_true'] at hc2
        have h2 : ¬ s.step = 4 := by omega
        refine AWp.rs fun K12 hK12 => ?_
        try simp only [go_sem]
        refine DW.acp [b11] [] rfl rfl rfl rfl (by (try simp only [go_sem, sob, fb11]); rfl) rfl (lmCmd_c T hL known hkn b11 s line k3 _ _) ?_
        rintro _ _ ⟨rfl, rfl⟩
        try simp only [go_sem, sob]
        refine hK12 _ _ ?_
        try clear hK12 K12
        refine AWp.mask [false, false, false, true, true, true] rfl ?_
        simp only [go_sem]
        refine AWp.rs fun K13 hK13 => ?_
        try simp only [go_sem, fb6, fb11]
        refine hK13 _ _ ?_
        try clear hK13 K13
        refine AWp.mask [true, true, true, true] rfl ?_
        simp only [go_sem]
        refine AWp.ret ?_
        try simp only [go_sem, fb6, fb11]
        rw [lineR_2 h0 hc1 h2]; simp [linV, snA, LeA, LeL, LeD, adsD]
      · skip
        try simp only [decide_eq_true_eq, Bool.not_eq_false'] at hc2
        have h2 : s.step = 4 := by omega
        refine AWp.rs fun K14 hK14 => ?_
        try simp only [go_sem]
        refine hK14 _ _ ?_
        try clear hK14 K14
        refine AWp.mask [false, true, true, true, true, false, true] rfl ?_
        simp only [go_sem]
        refine AWp.cond _ rfl (fun hc3 => ?_) (fun hc3 => ?_)
        · skip
          try simp only [decide_eq_false_iff_not, Bool.not_eq_true'] at hc3
          refine AWp.rs fun K15 hK15 => ?_
          try simp only [go_sem]
          refine DW.acp [b11] [] rfl rfl rfl rfl (by (try simp only [go_sem, sob, fb11]); rfl) rfl (lmBody_c T b11 s line hln k4 _ _) ?_
          rintro _ _ ⟨rfl, rfl⟩
          try simp only [go_sem, sob]
          refine hK15 _ _ ?_
          try clear hK15 K15
          refine AWp.mask [false, false, true, true] rfl ?_
          simp only [go_sem]
          refine AWp.rs fun K16 hK16 => ?_
          try simp only [go_sem, fb6, fb11]
          refine hK16 _ _ ?_
          try clear hK16 K16
          refine AWp.mask [true, true, true, true] rfl ?_
          simp only [go_sem]
          refine AWp.ret ?_
          try simp only [go_sem, fb6, fb11]
          rw [lineR_3 h0 hc1 h2 hc3]; simp [linV, snA, LeA, LeL, LeD, adsD]
        · skip
          try simp only [decide_eq_true_eq, Bool.not_eq_false'] at hc3
          have h3 : line = [46] := by simpa using hc3
          refine AWp.skip ?_
          refine blkQ_n (thenQ_n ?_)
          refine hK8 _ _ ?_
          try clear hK8 K8
          refine AWp.rs fun K17 hK17 => ?_
          try simp only [go_sem]
          refine hK17 _ _ ?_
          try clear hK17 K17
          refine AWp.seq fun K18 hK18 => ?_
          refine AWp.rs fun K19 hK19 => ?_
          try simp only [go_sem, fb6, fb11]
          refine hK19 _ _ ?_
          try clear hK19 K19
          refine AWp.mask [false, true, true, false, true, false, false, true, true, true] rfl ?_
          simp only [go_sem]
          refine AWp.block ?_
          refine AWp.ownNilS 13 5 rfl rfl (by decide) fun w0 fw0 => ?_
          try simp only [freshT] at fw0
          simp only [go_sem]
          refine AWp.loopS [true, true, false, true, true] [false, false, true, false, false, true] (fun n lc hc => ∃ (k w : Nat), n = s.tos.length - k ∧ EqS lc [(13, .own w 5 ((s.tos.map (letD s)).take k)), (66, .d (.int .i64 (k : Nat)))] ∧ EqS hc (⟨[(b11, ⟨6, 1, [[.d (.int .i64 s.step), .d (.str s.fl), .d (.str s.fd), .d (.slc 2 (adsD s.tos)), .d (.str s.text), .d (.bool s.large)]]⟩), (b6, ⟨6, 1, [[.d (.int .i64 0), .d (.str []), .d (.str []), .nils, .d (.str []), .d (.bool false)]]⟩), (b3, ⟨6, 1, [[.d (.int .i64 s.step), .d (.str s.fl), .d (.str s.fd), .d (.slc 2 (adsD s.tos)), .d (.str s.text), .d (.bool s.large)]]⟩)], [w]⟩) ∧ (k ≤ s.tos.length)) rfl ?_ ?_
          · refine ⟨_, 0, w0, rfl, ?_, ?_, ?_⟩
            · (try simp only [go_sem]) <;> first | exact ⟨rfl⟩ | (constructor; simp; done)
            · (try simp only [go_sem, sob, icast, adD, fb3, fb6, fb11, fw0]) <;> first | exact ⟨rfl⟩ | (constructor; simp; done)
            all_goals (first | omega | rfl | (simp; done) | (simp; omega) | assumption)
          · rintro _ _ _ ⟨k, w, rfl, ⟨rfl⟩, ⟨rfl⟩, h4⟩
            simp only [go_sem]
            refine AWp.rs fun K20 hK20 => ?_
            try simp only [go_sem]
            refine hK20 _ _ ?_
            try clear hK20 K20
            refine AWp.seq fun K21 hK21 => ?_
            refine AWp.cond _ rfl (fun hc4 => ?_) (fun hc4 => ?_)
            · skip
              try simp only [decide_eq_true_eq] at hc4
              have hlt : k < s.tos.length := by omega
              have hki : (k : Int) < (s.tos.length : Int) := by omega
              refine AWp.skip ?_
              refine thenQ_n ?_
              refine hK21 _ _ ?_
              try clear hK21 K21
              refine AWp.seq fun K22 hK22 => ?_
              refine AWp.block ?_
              refine AWp.rs fun K23 hK23 => ?_
              try simp only [go_sem, adD, adsD_get s.tos k _ hlt, hki]
              intro b15
              first | intro fb15 | have fb15 := True.intro
              try simp only [freshL] at fb15
              refine hK23 _ _ ?_
              try clear hK23 K23
              refine AWp.rk fun K24 hK24 => ?_
              try simp only [go_sem, fb6, fb11, fb15]
              refine DW.app rfl rfl rfl rfl (show slI Tryd.prog 29 = some (61, 5, 80) by simp only [go_sem]) rfl rfl (by simp only [go_sem]) (by first | exact .inl rfl | exact .inr rfl) (by (try simp only [go_sem, List.length_map, List.length_take, List.length_cons, List.length_nil]); first | done | omega) (by (try simp only [go_sem, List.length_map, List.length_take, List.length_cons, List.length_nil]); first | done | omega) fun t1 ft1 => ?_
              try simp only [freshT] at ft1
              try simp only [go_sem]
              refine hK24 _ _ ?_
              try clear hK24 K24
              refine blkQ_n (thenQ_n ?_)
              refine hK22 _ _ ?_
              try clear hK22 K22
              refine AWp.mask [true, true, true, false, true, true, true] rfl ?_
              simp only [go_sem]
              refine AWp.rk fun K25 hK25 => ?_
              try simp only [go_sem, icast]
              (repeat (with_reducible refine And.intro ?_ ?_; omega))
              refine hK25 _ _ ?_
              try clear hK25 K25
              refine thenQ_n ?_
              refine EndS.mk [true, true, false, true, true] [false, false, true, false, false, true] [b15] [] [b11, b6, b3] [t1] rfl ?_ ?_
              · (try simp only [go_sem]) <;> try rfl
              refine .e ⟨_, ?_, k + 1, t1, rfl, ?_, ?_, ?_⟩
              · first | omega | (simp; omega) | (grind)
              · (try simp only [go_sem]) <;> first | exact ⟨rfl⟩ | (constructor; rw [← take_snoc (s.tos.map (letD s)) k (by simpa using hlt)]; simp [letD]; done)
              · (try simp only [go_sem, fb6, fb11, fb15]) <;> first | exact ⟨rfl⟩ | (constructor; simp; done)
              · omega
            · skip
              try simp only [decide_eq_false_iff_not, Int.not_lt] at hc4
              refine AWp.exit ?_
              refine thenQ_e (thenQ_e (blkQ_e (thenQ_n ?_)))
              refine hK18 _ _ ?_
              try clear hK18 K18
              refine AWp.mask [false, true, true] rfl ?_
              simp only [go_sem]
              refine AWp.rs fun K26 hK26 => ?_
              try simp only [go_sem, fb6, fb11]
              refine hK26 _ _ ?_
              try clear hK26 K26
              refine AWp.ret ?_
              try simp only [go_sem, fb6, fb11]
              rw [lineR_4 h0 hc1 h2 h3]; have h9 : (s.tos.map (letD s)).take k = s.tos.map (letD s) := List.take_of_length_le (by simp; omega)
              rw [h9]; simp [linV, snA, LeA, LeL, LeD, adsD]
end Go.Proofs.YthpkjmbdjnelfaaDoor

namespace Go.Proofs.YthpkjmbdjnelfaaDoor
set_option linter.unusedSimpArgs false
set_option linter.unusedVariables false
def cmV (r : Sn × Int) : AV := .tup [.agg (snA r.1), .d (.int .i64 r.2)]
set_option maxRecDepth 4000 in
set_option maxHeartbeats 1000000 in
theorem cmded_c (T : Tbl) (known : List Tx) (hkn : known.length ≤ 1048576) (line : Tx) (s : Sn) (hok : OkS s) : PC Tryd.prog T 31 [.agg [.d (.int .i64 s.step), .d (.str s.fl), .d (.str s.fd), .d (.slc 2 (adsD s.tos)), .d (.str s.text), .d (.bool s.large)], .d (.slc 1 (known.map strD)), .d (.str line)] (cmV (cmdL known line s)) := by
  refine ⟨Tryd.call31, PCall.enterS Tryd.func31 rfl Tryd.ntmps31 rfl fun hb => ?_⟩
  obtain ⟨k1, k2, k3, k4, k5, k6, k7, k8, k9⟩ := hok
  have hp1 : (preR line [76, 72, 76, 79, 32]).1.length ≤ line.length := preR_len line _
  have hp2 : (preR line [77, 65, 73, 76, 32, 70, 82, 79, 77, 58]).1.length ≤ line.length := preR_len line _
  have hp3 : (preR line [82, 67, 80, 84, 32, 84, 79, 58]).1.length ≤ line.length := preR_len line _
  simp only [go_sem, Tryd.results31]
  refine AWp.rs fun K1 hK1 => ?_
  try simp only [go_sem]
  intro b3
  first | intro fb3 | have fb3 := True.intro
  try simp only [freshL] at fb3
  intro b6
  first | intro fb6 | have fb6 := True.intro
  try simp only [freshL] at fb6
  refine hK1 _ _ ?_
  try clear hK1 K1
  refine AWp.seq fun K2 hK2 => ?_
  refine AWp.rs fun K3 hK3 => ?_
  try simp only [go_sem]
  refine hK3 _ _ ?_
  try clear hK3 K3
  refine AWp.mask [false, true, true, true, true, false, false, false, true] rfl ?_
  simp only [go_sem]
  refine AWp.cond _ rfl (fun hc0 => ?_) (fun hc0 => ?_)
  · skip
    try simp only [decide_eq_true_eq] at hc0
    have h0 : 300 < line.length := by omega
    refine AWp.rs fun K4 hK4 => ?_
    try simp only [go_sem, fb6]
    refine hK4 _ _ ?_
    try clear hK4 K4
    refine AWp.mask [false, false, false, true, true] rfl ?_
    simp only [go_sem]
    refine AWp.ret ?_
    try simp only [go_sem, fb6]
    rw [cm_0 h0]; simp [cmV, snA, LeA, LeL, LeD, adsD]
  · skip
    try simp only [decide_eq_false_iff_not, Int.not_lt] at hc0
    have h0 : ¬ 300 < line.length := by omega
    refine AWp.skip ?_
    refine thenQ_n ?_
    refine hK2 _ _ ?_
    try clear hK2 K2
    refine AWp.rs fun K5 hK5 => ?_
    try simp only [go_sem]
    refine DW.pcr rfl rfl rfl rfl (behind_c T _ _ (by omega) (by decide)) rfl rfl ?_
    try simp only [go_sem]
    refine hK5 _ _ ?_
    try clear hK5 K5
    refine AWp.mask [true, true, true, true, true, true] rfl ?_
    simp only [go_sem]
    refine AWp.seq fun K6 hK6 => ?_
    refine AWp.rs fun K7 hK7 => ?_
    try simp only [go_sem]
    refine hK7 _ _ ?_
    try clear hK7 K7
    refine AWp.cond _ rfl (fun hc1 => ?_) (fun hc1 => ?_)
    · skip
      refine AWp.seq fun K8 hK8 => ?_
      refine AWp.rs fun K9 hK9 => ?_
      try simp only [go_sem]
      refine DW.pcr rfl rfl rfl rfl (addrFault_p T _ _ (by decide) (by omega)) rfl rfl ?_
      try simp only [go_sem]
      refine hK9 _ _ ?_
      try clear hK9 K9
      refine AWp.mask [false, false, true, true, false, false, false, false, false, false, true] rfl ?_
      simp only [go_sem]
      refine AWp.cond _ rfl (fun hc2 => ?_) (fun hc2 => ?_)
      · skip
        try simp only [decide_eq_false_iff_not, Bool.not_eq_true'] at hc2
        refine AWp.rs fun K10 hK10 => ?_
        try simp only [go_sem, fb6]
        refine hK10 _ _ ?_
        try clear hK10 K10
        refine AWp.ret ?_
        try simp only [go_sem, fb6]
        rw [cm_1 h0 hc1 hc2]; simp [cmV, snA, LeA, LeL, LeD, adsD]
      · skip
        try simp only [decide_eq_true_eq, Bool.not_eq_false'] at hc2
        have h2 : adrE [120] (preR line lhloW).1 = 0 := by omega
        refine AWp.skip ?_
        refine thenQ_n ?_
        refine hK8 _ _ ?_
        try clear hK8 K8
        refine AWp.rs fun K11 hK11 => ?_
        try simp only [go_sem, fb6]
        refine hK11 _ _ ?_
        try clear hK11 K11
        refine AWp.ret ?_
        try simp only [go_sem, fb6]
        rw [cm_2 h0 hc1 h2]; simp [cmV, snA, LeA, LeL, LeD, adsD]
    · skip
      have hc1 : ¬ (preR line lhloW).2 = true := by simpa using hc1
      refine AWp.skip ?_
      refine thenQ_n ?_
      refine hK6 _ _ ?_
      try clear hK6 K6
      refine AWp.rs fun K12 hK12 => ?_
      try simp only [go_sem]
      refine DW.pcr rfl rfl rfl rfl (behind_c T _ _ (by omega) (by decide)) rfl rfl ?_
      try simp only [go_sem]
      refine hK12 _ _ ?_
      try clear hK12 K12
      refine AWp.mask [true, true, true, true, true, true] rfl ?_
      simp only [go_sem]
      refine AWp.seq fun K13 hK13 => ?_
      refine AWp.rs fun K14 hK14 => ?_
      try simp only [go_sem]
      refine hK14 _ _ ?_
      try clear hK14 K14
      refine AWp.cond _ rfl (fun hc3 => ?_) (fun hc3 => ?_)
      · skip
        refine AWp.rs fun K15 hK15 => ?_
        try simp only [go_sem]
        refine DW.pcr rfl rfl rfl rfl (angled_c T _ (by omega)) rfl rfl ?_
        try simp only [go_sem, anV]
        intro b10
        first | intro fb10 | have fb10 := True.intro
        try simp only [freshL] at fb10
        refine hK15 _ _ ?_
        try clear hK15 K15
        refine AWp.mask [false, false, true, true, false, false, true, true] rfl ?_
        simp only [go_sem]
        refine AWp.seq fun K16 hK16 => ?_
        refine AWp.rs fun K17 hK17 => ?_
        try simp only [go_sem, fb6, fb10]
        refine hK17 _ _ ?_
        try clear hK17 K17
        refine AWp.cond _ rfl (fun hc4 => ?_) (fun hc4 => ?_)
        · skip
          try simp only [decide_eq_false_iff_not, Bool.not_eq_true'] at hc4
          refine AWp.rs fun K18 hK18 => ?_
          try simp only [go_sem, fb6, fb10]
          refine hK18 _ _ ?_
          try clear hK18 K18
          refine AWp.mask [false, true, true] rfl ?_
          simp only [go_sem]
          refine AWp.ret ?_
          try simp only [go_sem, fb6, fb10]
          rw [cm_3 h0 hc1 hc3, mailS_1 hc4]; simp [cmV, snA, LeA, LeL, LeD, adsD]
        · skip
          try simp only [decide_eq_true_eq, Bool.not_eq_false'] at hc4
          have h4 : s.step = 1 := by omega
          refine AWp.skip ?_
          refine thenQ_n ?_
          refine hK16 _ _ ?_
          try clear hK16 K16
          refine AWp.seq fun K19 hK19 => ?_
          refine AWp.rs fun K20 hK20 => ?_
          try simp only [go_sem]
          refine hK20 _ _ ?_
          try clear hK20 K20
          refine AWp.mask [true, true, true, false, false, false, false, false, true] rfl ?_
          simp only [go_sem]
          refine AWp.cond _ rfl (fun hc5 => ?_) (fun hc5 => ?_)
          · skip
            try simp only [Bool.not_eq_true'] at hc5
            have h5 : (angR (preR line mailW).1).2 = false := by simpa using hc5
            refine AWp.rs fun K21 hK21 => ?_
            try simp only [go_sem, fb6, fb10]
            refine hK21 _ _ ?_
            try clear hK21 K21
            refine AWp.mask [false, true, true] rfl ?_
            simp only [go_sem]
            refine AWp.ret ?_
            try simp only [go_sem, fb6, fb10]
            rw [cm_3 h0 hc1 hc3, mailS_2 h4 h5]; simp [cmV, snA, LeA, LeL, LeD, adsD]
          · skip
            try simp only [Bool.not_eq_false'] at hc5
            have h5 : (angR (preR line mailW).1).2 = true := by simpa using hc5
            have e1 : s.tos = [] := List.eq_nil_of_length_eq_zero (k8 (by omega))
            obtain ⟨e2, e3⟩ := k9 (by omega)
            refine AWp.skip ?_
            refine thenQ_n ?_
            refine hK19 _ _ ?_
            try clear hK19 K19
            refine AWp.rs fun K22 hK22 => ?_
            try simp only [go_sem, fb6, fb10]
            refine hK22 _ _ ?_
            try clear hK22 K22
            refine AWp.mask [false, true, true] rfl ?_
            simp only [go_sem]
            refine AWp.ret ?_
            try simp only [go_sem, fb6, fb10]
            rw [cm_3 h0 hc1 hc3, mailS_3 h4 h5]; simp [cmV, snA, LeA, LeL, LeD, adsD, e1, e2, e3]
      · skip
        have hc3 : ¬ (preR line mailW).2 = true := by simpa using hc3
        refine AWp.skip ?_
        refine thenQ_n ?_
        refine hK13 _ _ ?_
        try clear hK13 K13
        refine AWp.rs fun K23 hK23 => ?_
        try simp only [go_sem]
        refine DW.pcr rfl rfl rfl rfl (behind_c T _ _ (by omega) (by decide)) rfl rfl ?_
        try simp only [go_sem]
        refine hK23 _ _ ?_
        try clear hK23 K23
        refine AWp.mask [true, true, true, true, true, true] rfl ?_
        simp only [go_sem]
        refine AWp.seq fun K24 hK24 => ?_
        refine AWp.rs fun K25 hK25 => ?_
        try simp only [go_sem]
        refine hK25 _ _ ?_
        try clear hK25 K25
        refine AWp.cond _ rfl (fun hc6 => ?_) (fun hc6 => ?_)
        · skip
          refine AWp.rs fun K26 hK26 => ?_
          try simp only [go_sem]
          refine DW.pcr rfl rfl rfl rfl (angled_c T _ (by omega)) rfl rfl ?_
          try simp only [go_sem, anV]
          intro b12
          first | intro fb12 | have fb12 := True.intro
          try simp only [freshL] at fb12
          refine hK26 _ _ ?_
          try clear hK26 K26
          refine AWp.mask [true, false, true, true, false, false, true, true] rfl ?_
          simp only [go_sem]
          refine AWp.seq fun K27 hK27 => ?_
          refine AWp.rs fun K28 hK28 => ?_
          try simp only [go_sem, fb6, fb12]
          refine hK28 _ _ ?_
          try clear hK28 K28
          refine AWp.mask [true, true, true, true, true, false, false, false, false, false, false, false, true] rfl ?_
          simp only [go_sem]
          refine AWp.cond _ rfl (fun hc7 => ?_) (fun hc7 => ?_)
          · skip
            try simp only [decide_eq_false_iff_not, Bool.not_eq_true', Bool.and_eq_true] at hc7
            have h7 : ¬ s.step = 2 ∧ ¬ s.step = 3 := by omega
            refine AWp.rs fun K29 hK29 => ?_
            try simp only [go_sem, fb6, fb12]
            refine hK29 _ _ ?_
            try clear hK29 K29
            refine AWp.mask [false, false, true, true] rfl ?_
            simp only [go_sem]
            refine AWp.ret ?_
            try simp only [go_sem, fb6, fb12]
            rw [cm_4 h0 hc1 hc3 hc6, rcptS_1 h7]; simp [cmV, snA, LeA, LeL, LeD, adsD]
          · skip
            try simp only [decide_eq_true_eq, Bool.not_eq_false', Bool.and_eq_false_iff] at hc7
            have h7 : s.step = 2 ∨ s.step = 3 := by omega
            refine AWp.skip ?_
            refine thenQ_n ?_
            refine hK27 _ _ ?_
            try clear hK27 K27
            refine AWp.seq fun K30 hK30 => ?_
            refine AWp.rs fun K31 hK31 => ?_
            try simp only [go_sem]
            refine hK31 _ _ ?_
            try clear hK31 K31
            refine AWp.cond _ rfl (fun hc8 => ?_) (fun hc8 => ?_)
            · skip
              try simp only [Bool.not_eq_true'] at hc8
              have h8 : (angR (preR line rcptW).1).2 = false := by simpa using hc8
              refine AWp.rs fun K32 hK32 => ?_
              try simp only [go_sem, fb6, fb12]
              refine hK32 _ _ ?_
              try clear hK32 K32
              refine AWp.mask [false, false, true, true] rfl ?_
              simp only [go_sem]
              refine AWp.ret ?_
              try simp only [go_sem, fb6, fb12]
              rw [cm_4 h0 hc1 hc3 hc6, rcptS_2 h7 h8]; simp [cmV, snA, LeA, LeL, LeD, adsD]
            · skip
              try simp only [Bool.not_eq_false'] at hc8
              have h8 : (angR (preR line rcptW).1).2 = true := by simpa using hc8
              refine AWp.skip ?_
              refine thenQ_n ?_
              refine hK30 _ _ ?_
              try clear hK30 K30
              refine AWp.mask [true, true, true, true] rfl ?_
              simp only [go_sem]
              refine AWp.seq fun K33 hK33 => ?_
              refine AWp.rs fun K34 hK34 => ?_
              try simp only [go_sem, fb12]
              refine DW.pcr rfl rfl rfl rfl (known_c T _ _ hkn) rfl rfl ?_
              try simp only [go_sem]
              refine hK34 _ _ ?_
              try clear hK34 K34
              refine AWp.mask [false, true, true, true, false, false, false, false, true] rfl ?_
              simp only [go_sem]
              refine AWp.cond _ rfl (fun hc9 => ?_) (fun hc9 => ?_)
              · skip
                try simp only [decide_eq_false_iff_not, Bool.not_eq_true'] at hc9
                have h9 : ¬ (angR (preR line rcptW).1).1.1 ∈ known := by simpa using hc9
                refine AWp.rs fun K35 hK35 => ?_
                try simp only [go_sem, fb6, fb12]
                refine hK35 _ _ ?_
                try clear hK35 K35
                refine AWp.mask [false, true, true] rfl ?_
                simp only [go_sem]
                refine AWp.ret ?_
                try simp only [go_sem, fb6, fb12]
                rw [cm_4 h0 hc1 hc3 hc6, rcptS_3 h7 h8 h9]; simp [cmV, snA, LeA, LeL, LeD, adsD]
              · skip
                try simp only [decide_eq_true_eq, Bool.not_eq_false'] at hc9
                have h9 : (angR (preR line rcptW).1).1.1 ∈ known := by simpa using hc9
                refine AWp.skip ?_
                refine thenQ_n ?_
                refine hK33 _ _ ?_
                try clear hK33 K33
                refine AWp.seq fun K36 hK36 => ?_
                refine AWp.rs fun K37 hK37 => ?_
                try simp only [go_sem, fb6, fb12]
                refine DW.pcr rfl rfl rfl rfl (addrIn_c T _ _ (by omega)) rfl rfl ?_
                try simp only [go_sem]
                refine hK37 _ _ ?_
                try clear hK37 K37
                refine AWp.mask [true, true, true, false, false, false, false, true] rfl ?_
                simp only [go_sem]
                refine AWp.cond _ rfl (fun hc10 => ?_) (fun hc10 => ?_)
                · skip
                  try simp only [decide_eq_true_eq] at hc10
                  have h10 : (angR (preR line rcptW).1).1 ∈ s.tos := by simpa using hc10
                  refine AWp.rs fun K38 hK38 => ?_
                  try simp only [go_sem, fb6, fb12]
                  refine hK38 _ _ ?_
                  try clear hK38 K38
                  refine AWp.mask [false, true, true] rfl ?_
                  simp only [go_sem]
                  refine AWp.ret ?_
                  try simp only [go_sem, fb6, fb12]
                  rw [cm_4 h0 hc1 hc3 hc6, rcptS_4 h7 h8 h9 h10]; simp [cmV, snA, LeA, LeL, LeD, adsD]
                · skip
                  try simp only [decide_eq_false_iff_not] at hc10
                  have h10 : ¬ (angR (preR line rcptW).1).1 ∈ s.tos := by simpa using hc10
                  refine AWp.skip ?_
                  refine thenQ_n ?_
                  refine hK36 _ _ ?_
                  try clear hK36 K36
                  refine AWp.seq fun K39 hK39 => ?_
                  refine AWp.rs fun K40 hK40 => ?_
                  try simp only [go_sem, fb6, fb12]
                  refine hK40 _ _ ?_
                  try clear hK40 K40
                  refine AWp.mask [true, true, true, false, false, false, false, true] rfl ?_
                  simp only [go_sem]
                  refine AWp.cond _ rfl (fun hc11 => ?_) (fun hc11 => ?_)
                  · skip
                    try simp only [decide_eq_true_eq] at hc11
                    have h11 : s.tos.length = 5 := by omega
                    refine AWp.rs fun K41 hK41 => ?_
                    try simp only [go_sem, fb6, fb12]
                    refine hK41 _ _ ?_
                    try clear hK41 K41
                    refine AWp.mask [false, true, true] rfl ?_
                    simp only [go_sem]
                    refine AWp.ret ?_
                    try simp only [go_sem, fb6, fb12]
                    rw [cm_4 h0 hc1 hc3 hc6, rcptS_5 h7 h8 h9 h10 h11]; simp [cmV, snA, LeA, LeL, LeD, adsD]
                  · skip
                    try simp only [decide_eq_false_iff_not, Int.not_le] at hc11
                    have h11 : ¬ s.tos.length = 5 := by omega
                    refine AWp.skip ?_
                    refine thenQ_n ?_
                    refine hK39 _ _ ?_
                    try clear hK39 K39
                    refine AWp.rs fun K42 hK42 => ?_
                    try simp only [go_sem, fb6, fb12]
                    intro b14
                    first | intro fb14 | have fb14 := True.intro
                    try simp only [freshL] at fb14
                    refine hK42 _ _ ?_
                    try clear hK42 K42
                    refine AWp.mask [true, true, true, true] rfl ?_
                    simp only [go_sem]
                    refine AWp.ownNilH b14 0 3 2 (by (try simp only [go_sem, fb14]); rfl) rfl rfl (by decide) fun t9 ft9 => ?_
                    try simp only [freshT] at ft9
                    simp only [go_sem, fb14]
                    refine AWp.seq fun K43 hK43 => ?_
                    refine AWp.rs fun K44 hK44 => ?_
                    try simp only [go_sem]
                    refine hK44 _ _ ?_
                    try clear hK44 K44
                    refine AWp.block ?_
                    refine AWp.loopS [true, true, true, true] [false, false, false, false, true] (fun n lc hc => ∃ (k w : Nat), n = s.tos.length - k ∧ EqS lc [(15, .d (.int .i64 (k : Nat)))] ∧ EqS hc (⟨[(b14, ⟨6, 1, [[.d (.int .i64 3), .d (.str s.fl), .d (.str s.fd), .own w 2 ((adsD s.tos).take k), .d (.str []), .d (.bool false)]]⟩), (b12, ⟨2, 1, [[.d (.str (angR (preR line rcptW).1).1.1), .d (.str (angR (preR line rcptW).1).1.2)]]⟩), (b6, ⟨6, 1, [[.d (.int .i64 0), .d (.str []), .d (.str []), .nils, .d (.str []), .d (.bool false)]]⟩), (b3, ⟨6, 1, [[.d (.int .i64 s.step), .d (.str s.fl), .d (.str s.fd), .d (.slc 2 (adsD s.tos)), .d (.str s.text), .d (.bool s.large)]]⟩)], [w]⟩) ∧ (k ≤ s.tos.length)) rfl ?_ ?_
                    · refine ⟨_, 0, t9, rfl, ?_, ?_, ?_⟩
                      · (try simp only [go_sem]) <;> first | exact ⟨rfl⟩ | (constructor; simp; done)
                      · (try simp only [go_sem]) <;> first | exact ⟨rfl⟩ | (constructor; simp; done)
                      all_goals (first | omega | rfl | (simp; done) | (simp; omega) | assumption)
                    · rintro _ _ _ ⟨k, w, rfl, ⟨rfl⟩, ⟨rfl⟩, g4⟩
                      simp only [go_sem]
                      refine AWp.seq fun K45 hK45 => ?_
                      refine AWp.rs fun K46 hK46 => ?_
                      try simp only [go_sem, fb6, fb12, fb14]
                      refine hK46 _ _ ?_
                      try clear hK46 K46
                      refine AWp.mask [true, true, true, true, true, false, false, false, false, true] rfl ?_
                      simp only [go_sem]
                      refine AWp.cond _ rfl (fun hc12 => ?_) (fun hc12 => ?_)
                      · skip
                        try simp only [decide_eq_true_eq] at hc12
                        have hlt : k < s.tos.length := by omega
                        have hki : (k : Int) < (s.tos.length : Int) := by omega
                        refine AWp.skip ?_
                        refine thenQ_n ?_
                        refine hK45 _ _ ?_
                        try clear hK45 K45
                        refine AWp.seq fun K47 hK47 => ?_
                        refine AWp.block ?_
                        refine AWp.dk true [0, 1, 2, 3, 4, 5, 6, 7, 8, 9, 10] rfl (by kernel_rfl) fun K48 hK48 => ?_
                        try simp only [go_sem, adD, fb6, fb12, fb14, adsD_get s.tos k _ hlt, hki]
                        refine DW.app rfl rfl rfl rfl (show slI Tryd.prog 24 = some (23, 2, 32) by simp only [go_sem]) rfl rfl (by simp only [go_sem]) (by first | exact .inl rfl | exact .inr rfl) (by (try simp only [go_sem, List.length_take, List.length_cons, List.length_nil, adsD_len]); first | done | omega) (by (try simp only [go_sem, List.length_take, List.length_cons, List.length_nil, adsD_len]); first | done | omega) fun t1 ft1 => ?_
                        try simp only [freshT] at ft1
                        try simp only [go_sem, fb14]
                        refine hK48 _ _ ?_
                        try clear hK48 K48
                        refine blkQ_n (thenQ_n ?_)
                        refine hK47 _ _ ?_
                        try clear hK47 K47
                        refine AWp.mask [true, true, true, true, true] rfl ?_
                        simp only [go_sem]
                        refine AWp.rk fun K49 hK49 => ?_
                        try simp only [go_sem, icast]
                        (repeat (with_reducible refine And.intro ?_ ?_; omega))
                        refine hK49 _ _ ?_
                        try clear hK49 K49
                        refine thenQ_n ?_
                        refine EndS.mk [true, true, true, true] [false, false, false, false, true] [] [] [b14, b12, b6, b3] [t1] rfl ?_ ?_
                        · (try simp only [go_sem]) <;> try rfl
                        refine .e ⟨_, ?_, k + 1, t1, rfl, ?_, ?_, ?_⟩
                        · first | omega | (simp; omega) | (grind)
                        · (try simp only [go_sem]) <;> first | exact ⟨rfl⟩ | (constructor; simp; done)
                        · (try simp only [go_sem, fb6, fb12, fb14]) <;> first | exact ⟨rfl⟩ | (constructor; rw [← take_snoc (adsD s.tos) k (by simpa [adsD] using hlt)]; simp [adsD, adD]; done)
                        · omega
                      · skip
                        try simp only [decide_eq_false_iff_not, Int.not_lt] at hc12
                        have e0 : (adsD s.tos).take k = adsD s.tos := List.take_of_length_le (by simp [adsD]; omega)
                        obtain ⟨e2, e3⟩ := k9 (by omega)
                        refine AWp.exit ?_
                        refine thenQ_e (thenQ_e (blkQ_e (thenQ_n ?_)))
                        refine hK43 _ _ ?_
                        try clear hK43 K43
                        refine AWp.rs fun K50 hK50 => ?_
                        try simp only [go_sem, fb12, fb14]
                        refine DW.app rfl rfl rfl rfl (show slI Tryd.prog 24 = some (23, 2, 32) by simp only [go_sem]) rfl rfl (by simp only [go_sem]) (by first | exact .inl rfl | exact .inr rfl) (by (try simp only [go_sem, List.length_take, List.length_cons, List.length_nil, adsD_len]); first | done | omega) (by (try simp only [go_sem, List.length_take, List.length_cons, List.length_nil, adsD_len]); first | done | omega) fun t2 ft2 => ?_
                        try simp only [freshT] at ft2
                        try simp only [go_sem, fb14]
                        refine hK50 _ _ ?_
                        try clear hK50 K50
                        refine AWp.mask [false, true, false, true] rfl ?_
                        simp only [go_sem]
                        refine AWp.rs fun K51 hK51 => ?_
                        try simp only [go_sem, fb6, fb12, fb14]
                        refine hK51 _ _ ?_
                        try clear hK51 K51
                        refine AWp.ret ?_
                        try simp only [go_sem, fb6, fb12, fb14]
                        rw [cm_4 h0 hc1 hc3 hc6, rcptS_6 h7 h8 h9 h10 h11, e0]; simp [cmV, snA, LeA, LeL, LeD, adsD, adD, e2, e3]
        · skip
          have hc6 : ¬ (preR line rcptW).2 = true := by simpa using hc6
          refine AWp.skip ?_
          refine thenQ_n ?_
          refine hK24 _ _ ?_
          try clear hK24 K24
          refine AWp.mask [false, true, true, true] rfl ?_
          simp only [go_sem]
          refine AWp.seq fun K52 hK52 => ?_
          refine AWp.rs fun K53 hK53 => ?_
          try simp only [go_sem]
          refine DW.pcr rfl rfl rfl rfl (lower_p T _ (by (try simp only [List.length_take]); omega)) rfl rfl ?_
          try simp only [go_sem]
          refine hK53 _ _ ?_
          try clear hK53 K53
          refine AWp.cond _ rfl (fun hc13 => ?_) (fun hc13 => ?_)
          · skip
            try simp only [decide_eq_true_eq] at hc13
            refine AWp.seq fun K54 hK54 => ?_
            refine AWp.rs fun K55 hK55 => ?_
            try simp only [go_sem, fb6]
            refine hK55 _ _ ?_
            try clear hK55 K55
            refine AWp.mask [false, true, true, false, false, false, false, false, true] rfl ?_
            simp only [go_sem]
            refine AWp.cond _ rfl (fun hc14 => ?_) (fun hc14 => ?_)
            · skip
              try simp only [decide_eq_false_iff_not, Bool.not_eq_true'] at hc14
              refine AWp.rs fun K56 hK56 => ?_
              try simp only [go_sem, fb6]
              refine hK56 _ _ ?_
              try clear hK56 K56
              refine AWp.ret ?_
              try simp only [go_sem, fb6]
              rw [cm_5 h0 hc1 hc3 hc6, if_pos hc13, if_pos hc14]; simp [cmV, snA, LeA, LeL, LeD, adsD]
            · skip
              try simp only [decide_eq_true_eq, Bool.not_eq_false'] at hc14
              have h14 : ¬ ¬ s.step = 3 := by omega
              refine AWp.skip ?_
              refine thenQ_n ?_
              refine hK54 _ _ ?_
              try clear hK54 K54
              refine AWp.rs fun K57 hK57 => ?_
              try simp only [go_sem, fb6]
              refine hK57 _ _ ?_
              try clear hK57 K57
              refine AWp.rs fun K58 hK58 => ?_
              try simp only [go_sem, fb6]
              refine hK58 _ _ ?_
              try clear hK58 K58
              refine AWp.mask [false, true, true] rfl ?_
              simp only [go_sem]
              refine AWp.ret ?_
              try simp only [go_sem, fb6]
              rw [cm_5 h0 hc1 hc3 hc6, if_pos hc13, if_neg h14]; simp [cmV, snA, LeA, LeL, LeD, adsD]
          · skip
            try simp only [decide_eq_false_iff_not] at hc13
            refine AWp.skip ?_
            refine thenQ_n ?_
            refine hK52 _ _ ?_
            try clear hK52 K52
            refine AWp.seq fun K59 hK59 => ?_
            refine AWp.rs fun K60 hK60 => ?_
            try simp only [go_sem]
            refine DW.pcr rfl rfl rfl rfl (lower_p T _ (by (try simp only [List.length_take]); omega)) rfl rfl ?_
            try simp only [go_sem]
            refine hK60 _ _ ?_
            try clear hK60 K60
            refine AWp.mask [true, true, true, false, false, false, false, false, true] rfl ?_
            simp only [go_sem]
            refine AWp.cond _ rfl (fun hc15 => ?_) (fun hc15 => ?_)
            · skip
              try simp only [decide_eq_true_eq] at hc15
              refine AWp.seq fun K61 hK61 => ?_
              refine AWp.rs fun K62 hK62 => ?_
              try simp only [go_sem, fb6]
              refine hK62 _ _ ?_
              try clear hK62 K62
              refine AWp.mask [false, true, true, false, false, false, true] rfl ?_
              simp only [go_sem]
              refine AWp.cond _ rfl (fun hc16 => ?_) (fun hc16 => ?_)
              · skip
                try simp only [decide_eq_true_eq] at hc16
                have e1 : s.tos = [] := List.eq_nil_of_length_eq_zero (k8 (by omega))
                obtain ⟨e2, e3⟩ := k9 (by omega)
                obtain ⟨e4, e5⟩ := k6 (by omega)
                have e6 : ¬ 1 < s.step := by omega
                refine AWp.rs fun K63 hK63 => ?_
                try simp only [go_sem, fb6]
                refine hK63 _ _ ?_
                try clear hK63 K63
                refine AWp.ret ?_
                try simp only [go_sem, fb6]
                rw [cm_5 h0 hc1 hc3 hc6, if_neg hc13, if_pos hc15, if_neg e6]; simp [cmV, snA, LeA, LeL, LeD, adsD, e1, e2, e3, e4, e5]
              · skip
                try simp only [decide_eq_false_iff_not] at hc16
                have e6 : (if 1 < s.step then 1 else s.step) = 1 := by split <;> omega
                refine AWp.skip ?_
                refine thenQ_n ?_
                refine hK61 _ _ ?_
                try clear hK61 K61
                refine AWp.rs fun K64 hK64 => ?_
                try simp only [go_sem, fb6]
                refine hK64 _ _ ?_
                try clear hK64 K64
                refine AWp.ret ?_
                try simp only [go_sem, fb6]
                rw [cm_5 h0 hc1 hc3 hc6, if_neg hc13, if_pos hc15, e6]; simp [cmV, snA, LeA, LeL, LeD, adsD]
            · skip
              try simp only [decide_eq_false_iff_not] at hc15
              refine AWp.skip ?_
              refine thenQ_n ?_
              refine hK59 _ _ ?_
              try clear hK59 K59
              refine AWp.seq fun K65 hK65 => ?_
              refine AWp.rs fun K66 hK66 => ?_
              try simp only [go_sem]
              refine DW.pcr rfl rfl rfl rfl (lower_p T _ (by (try simp only [List.length_take]); omega)) rfl rfl ?_
              try simp only [go_sem]
              refine hK66 _ _ ?_
              try clear hK66 K66
              refine AWp.cond _ rfl (fun hc17 => ?_) (fun hc17 => ?_)
              · skip
                try simp only [decide_eq_true_eq] at hc17
                refine AWp.rs fun K67 hK67 => ?_
                try simp only [go_sem, fb6]
                refine hK67 _ _ ?_
                try clear hK67 K67
                refine AWp.mask [false, false, true, true] rfl ?_
                simp only [go_sem]
                refine AWp.ret ?_
                try simp only [go_sem, fb6]
                rw [cm_5 h0 hc1 hc3 hc6, if_neg hc13, if_neg hc15, if_pos hc17]; simp [cmV, snA, LeA, LeL, LeD, adsD]
              · skip
                try simp only [decide_eq_false_iff_not] at hc17
                refine AWp.skip ?_
                refine thenQ_n ?_
                refine hK65 _ _ ?_
                try clear hK65 K65
                refine AWp.mask [true, true, true] rfl ?_
                simp only [go_sem]
                refine AWp.seq fun K68 hK68 => ?_
                refine AWp.rs fun K69 hK69 => ?_
                try simp only [go_sem]
                refine DW.pcr rfl rfl rfl rfl (lower_p T _ (by (try simp only [List.length_take]); omega)) rfl rfl ?_
                try simp only [go_sem]
                refine hK69 _ _ ?_
                try clear hK69 K69
                refine AWp.cond _ rfl (fun hc18 => ?_) (fun hc18 => ?_)
                · skip
                  try simp only [decide_eq_true_eq] at hc18
                  refine AWp.rs fun K70 hK70 => ?_
                  try simp only [go_sem, fb6]
                  refine hK70 _ _ ?_
                  try clear hK70 K70
                  refine AWp.mask [false, false, true, true] rfl ?_
                  simp only [go_sem]
                  refine AWp.ret ?_
                  try simp only [go_sem, fb6]
                  rw [cm_5 h0 hc1 hc3 hc6, if_neg hc13, if_neg hc15, if_neg hc17, if_pos hc18]; simp [cmV, snA, LeA, LeL, LeD, adsD]
                · skip
                  try simp only [decide_eq_false_iff_not] at hc18
                  refine AWp.skip ?_
                  refine thenQ_n ?_
                  refine hK68 _ _ ?_
                  try clear hK68 K68
                  refine AWp.mask [false, true, true] rfl ?_
                  simp only [go_sem]
                  refine AWp.rs fun K71 hK71 => ?_
                  try simp only [go_sem, fb6]
                  refine hK71 _ _ ?_
                  try clear hK71 K71
                  refine AWp.ret ?_
                  try simp only [go_sem, fb6]
                  rw [cm_5 h0 hc1 hc3 hc6, if_neg hc13, if_neg hc15, if_neg hc17, if_neg hc18]; simp [cmV, snA, LeA, LeL, LeD, adsD]
end Go.Proofs.YthpkjmbdjnelfaaDoor

namespace Go.Proofs.YthpkjmbdjnelfaaDoor
set_option linter.unusedSimpArgs false
set_option linter.unusedVariables false
theorem trim_1 {l : Tx} (h : 0 < (l.length : Int) ∧ ((l.getD 0 0).toNat : Int) = 46) : trimS l = l.drop 1 := by
  cases l with
  | nil => simp at h
  | cons c r =>
    have e : c = 46 := UInt8.toNat.inj (by have := h.2; simp only [List.getD_cons_zero] at this; show _ = 46; omega)
    rw [trimS, if_pos ⟨by simp, by simp [e]⟩]
theorem trim_0 {l : Tx} (h : ¬ (0 < (l.length : Int) ∧ ((l.getD 0 0).toNat : Int) = 46)) : trimS l = l := by
  rw [trimS, if_neg]
  rintro ⟨h1, h2⟩
  cases l with
  | nil => simp at h1
  | cons c r =>
    have e : c = 46 := by simpa using h2
    exact h ⟨by first | (simp; done) | (simp; omega), by simp [e]⟩
set_option maxRecDepth 4000 in
set_option maxHeartbeats 1000000 in
theorem Lined_c (T : Tbl) (known : List Tx) (hkn : known.length ≤ 1048576) (line : Tx) (hln : line.length ≤ 1048576) (s : Sn) (hB : SnB s) : PC Tryd.prog T 11 [.agg [.d (.int .i64 s.step), .d (.str s.fl), .d (.str s.fd), .d (.slc 2 (adsD s.tos)), .d (.str s.text), .d (.bool s.large)], .d (.slc 1 (known.map strD)), .d (.str line)] (linV (lineR known line s)) := by
  refine ⟨Tryd.call11, PCall.enterS Tryd.func11 rfl Tryd.ntmps11 rfl fun hb => ?_⟩
  simp only [go_sem, Tryd.results11]
  refine AWp.rs fun K1 hK1 => ?_
  try simp only [go_sem]
  intro b3
  first | intro fb3 | have fb3 := True.intro
  try simp only [freshL] at fb3
  intro b6
  first | intro fb6 | have fb6 := True.intro
  try simp only [freshL] at fb6
  refine hK1 _ _ ?_
  try clear hK1 K1
  refine AWp.mask [false, true, true, true, true] rfl ?_
  simp only [go_sem]
  refine AWp.rs fun K2 hK2 => ?_
  try simp only [go_sem, fb6]
  refine DW.pcr rfl rfl rfl rfl (sesFault_c T s hB) rfl rfl ?_
  try simp only [go_sem]
  refine hK2 _ _ ?_
  try clear hK2 K2
  refine AWp.seq fun K3 hK3 => ?_
  refine AWp.rs fun K4 hK4 => ?_
  try simp only [go_sem]
  refine hK4 _ _ ?_
  try clear hK4 K4
  refine AWp.cond _ rfl (fun hc0 => ?_) (fun hc0 => ?_)
  · skip
    try simp only [decide_eq_false_iff_not, Bool.not_eq_true'] at hc0
    refine AWp.rs fun K5 hK5 => ?_
    try simp only [go_sem, fb6]
    refine hK5 _ _ ?_
    try clear hK5 K5
    refine AWp.mask [false, false, false, true, true, true, true] rfl ?_
    simp only [go_sem]
    refine AWp.ret ?_
    try simp only [go_sem, fb6]
    rw [lineR_0 hc0]; simp [linV, snA, LeA, LeL, LeD, adsD]
  · skip
    try simp only [decide_eq_true_eq, Bool.not_eq_false'] at hc0
    have h0 : sesV s = 0 := by omega
    have hok := sesV_inv h0
    obtain ⟨k1, k2, k3, k4, k5, k6, k7, k8, k9⟩ := sesV_inv h0
    refine AWp.skip ?_
    refine thenQ_n ?_
    refine hK3 _ _ ?_
    try clear hK3 K3
    refine AWp.mask [true, true, true, true] rfl ?_
    simp only [go_sem]
    refine AWp.rs fun K6 hK6 => ?_
    try simp only [go_sem]
    refine hK6 _ _ ?_
    try clear hK6 K6
    refine AWp.seq fun K7 hK7 => ?_
    refine AWp.rs fun K8 hK8 => ?_
    try simp only [go_sem]
    refine hK8 _ _ ?_
    try clear hK8 K8
    refine AWp.block ?_
    refine AWp.ownNilS 11 2 rfl rfl (by decide) fun w0 fw0 => ?_
    try simp only [freshT] at fw0
    simp only [go_sem]
    refine AWp.loopS [true, true, true, true] [false, false, false, false, true, true] (fun n lc hc => ∃ (k w : Nat), n = s.tos.length - k ∧ EqS lc [(11, .own w 2 ((adsD s.tos).take k)), (12, .d (.int .i64 (k : Nat)))] ∧ EqS hc (⟨[(b6, ⟨6, 1, [[.d (.int .i64 0), .d (.str []), .d (.str []), .nils, .d (.str []), .d (.bool false)]]⟩), (b3, ⟨6, 1, [[.d (.int .i64 s.step), .d (.str s.fl), .d (.str s.fd), .d (.slc 2 (adsD s.tos)), .d (.str s.text), .d (.bool s.large)]]⟩)], [w]⟩) ∧ (k ≤ s.tos.length)) rfl ?_ ?_
    · refine ⟨_, 0, w0, rfl, ?_, ?_, ?_⟩
      · (try simp only [go_sem]) <;> first | exact ⟨rfl⟩ | (constructor; simp; done)
      · (try simp only [go_sem, icast, adD, cmV, snA, fb3, fb6, fw0]) <;> first | exact ⟨rfl⟩ | (constructor; simp; done)
      all_goals (first | omega | rfl | (simp; done) | (simp; omega) | assumption)
    · rintro _ _ _ ⟨k, w, rfl, ⟨rfl⟩, ⟨rfl⟩, g4⟩
      simp only [go_sem]
      refine AWp.seq fun K9 hK9 => ?_
      refine AWp.rs fun K10 hK10 => ?_
      try simp only [go_sem, fb6]
      refine hK10 _ _ ?_
      try clear hK10 K10
      refine AWp.mask [true, true, true, true, true, true, false, false, false, false, true] rfl ?_
      simp only [go_sem]
      refine AWp.cond _ rfl (fun hc1 => ?_) (fun hc1 => ?_)
      · skip
        try simp only [decide_eq_true_eq] at hc1
        have hlt : k < s.tos.length := by omega
        have hki : (k : Int) < (s.tos.length : Int) := by omega
        refine AWp.skip ?_
        refine thenQ_n ?_
        refine hK9 _ _ ?_
        try clear hK9 K9
        refine AWp.seq fun K11 hK11 => ?_
        refine AWp.block ?_
        refine AWp.rk fun K12 hK12 => ?_
        try simp only [go_sem, adD, fb6, adsD_get s.tos k _ hlt, hki]
        refine DW.app rfl rfl rfl rfl (show slI Tryd.prog 24 = some (23, 2, 32) by simp only [go_sem]) rfl rfl (by simp only [go_sem]) (by first | exact .inl rfl | exact .inr rfl) (by (try simp only [go_sem, List.length_take, List.length_cons, List.length_nil, adsD_len]); first | done | omega) (by (try simp only [go_sem, List.length_take, List.length_cons, List.length_nil, adsD_len]); first | done | omega) fun t1 ft1 => ?_
        try simp only [freshT] at ft1
        try simp only [go_sem]
        refine hK12 _ _ ?_
        try clear hK12 K12
        refine blkQ_n (thenQ_n ?_)
        refine hK11 _ _ ?_
        try clear hK11 K11
        refine AWp.mask [true, true, true, true, true, true] rfl ?_
        simp only [go_sem]
        refine AWp.rk fun K13 hK13 => ?_
        try simp only [go_sem, icast]
        (repeat (with_reducible refine And.intro ?_ ?_; omega))
        refine hK13 _ _ ?_
        try clear hK13 K13
        refine thenQ_n ?_
        refine EndS.mk [true, true, true, true] [false, false, false, false, true, true] [] [] [b6, b3] [t1] rfl ?_ ?_
        · (try simp only [go_sem]) <;> try rfl
        refine .e ⟨_, ?_, k + 1, t1, rfl, ?_, ?_, ?_⟩
        · first | omega | (simp; omega) | (grind)
        · (try simp only [go_sem]) <;> first | exact ⟨rfl⟩ | (constructor; rw [← take_snoc (adsD s.tos) k (by simpa [adsD] using hlt)]; simp [adsD, adD]; done)
        · (try simp only [go_sem, fb6]) <;> first | exact ⟨rfl⟩ | (constructor; simp; done)
        · omega
      · skip
        try simp only [decide_eq_false_iff_not, Int.not_lt] at hc1
        have e0 : (adsD s.tos).take k = adsD s.tos := List.take_of_length_le (by simp [adsD]; omega)
        rw [e0]
        refine AWp.exit ?_
        refine thenQ_e (thenQ_e (blkQ_e (thenQ_n ?_)))
        refine hK7 _ _ ?_
        try clear hK7 K7
        refine AWp.rs fun K14 hK14 => ?_
        try simp only [go_sem, fb6]
        refine hK14 _ _ ?_
        try clear hK14 K14
        refine AWp.mask [true, true, true, true] rfl ?_
        simp only [go_sem]
        refine AWp.seq fun K15 hK15 => ?_
        refine AWp.wkH [(b6, ⟨6, 1, [[.d (.int .i64 0), .d (.str []), .d (.str []), .nils, .d (.str []), .d (.bool false)]]⟩), (b3, ⟨6, 1, [[.d (.int .i64 s.step), .d (.str s.fl), .d (.str s.fd), .d (.slc 2 (adsD s.tos)), .d (.str s.text), .d (.bool s.large)]]⟩)] (by simp [LeObs, LeRows, LeA, LeL, LeD, AV.one, adsD]) ?_
        refine AWp.ord [] [w] [] [] (by (try simp only [go_sem]); rfl) ?_
        · skip
          refine AWp.rs fun K16 hK16 => ?_
          try simp only [go_sem, fb6]
          refine hK16 _ _ ?_
          try clear hK16 K16
          refine AWp.cond _ rfl (fun hc2 => ?_) (fun hc2 => ?_)
          · skip
            try simp only [decide_eq_true_eq] at hc2
            refine AWp.rs fun K17 hK17 => ?_
            try simp only [go_sem, fb6]
            refine hK17 _ _ ?_
            try clear hK17 K17
            refine AWp.mask [false, false, false, true, true, true, true] rfl ?_
            simp only [go_sem]
            refine AWp.ret ?_
            try simp only [go_sem, fb6]
            rw [lineR_1 h0 hc2]; simp [linV, snA, LeA, LeL, LeD, adsD]
          · skip
            try simp only [decide_eq_false_iff_not] at hc2
            refine AWp.skip ?_
            refine thenQ_n ?_
            refine hK15 _ _ ?_
            try clear hK15 K15
            refine AWp.seq fun K18 hK18 => ?_
            refine AWp.rs fun K19 hK19 => ?_
            try simp only [go_sem, fb6]
            refine hK19 _ _ ?_
            try clear hK19 K19
            refine AWp.mask [true, true, true, true, false, false, false, false, false, true] rfl ?_
            simp only [go_sem]
            refine AWp.cond _ rfl (fun hc3 => ?_) (fun hc3 => ?_)
            · skip
              try simp only [decide_eq_false_iff_not, Bool.not_eq_true'] at hc3
              have h2 : ¬ s.step = 4 := by omega
              refine AWp.rs fun K20 hK20 => ?_
              try simp only [go_sem, fb6]
              refine DW.pcr rfl rfl rfl rfl (cmded_c T known hkn line s hok) rfl rfl ?_
              try simp only [go_sem, cmV, snA]
              intro b13
              first | intro fb13 | have fb13 := True.intro
              try simp only [freshL] at fb13
              refine hK20 _ _ ?_
              try clear hK20 K20
              refine AWp.mask [false, false, false, true, true, true] rfl ?_
              simp only [go_sem]
              refine AWp.rs fun K21 hK21 => ?_
              try simp only [go_sem, fb6, fb13]
              refine hK21 _ _ ?_
              try clear hK21 K21
              refine AWp.mask [true, true, true, true] rfl ?_
              simp only [go_sem]
              refine AWp.ret ?_
              try simp only [go_sem, fb6, fb13]
              rw [lineR_2 h0 hc2 h2]; simp [linV, snA, LeA, LeL, LeD, adsD]
            · skip
              try simp only [decide_eq_true_eq, Bool.not_eq_false'] at hc3
              have h2 : s.step = 4 := by omega
              refine AWp.skip ?_
              refine thenQ_n ?_
              refine hK18 _ _ ?_
              try clear hK18 K18
              refine AWp.seq fun K22 hK22 => ?_
              refine AWp.rs fun K23 hK23 => ?_
              try simp only [go_sem]
              refine hK23 _ _ ?_
              try clear hK23 K23
              refine AWp.cond _ rfl (fun hc4 => ?_) (fun hc4 => ?_)
              · skip
                try simp only [decide_eq_true_eq] at hc4
                refine AWp.rs fun K24 hK24 => ?_
                try simp only [go_sem]
                refine hK24 _ _ ?_
                try clear hK24 K24
                refine AWp.mask [false, false, true, true, true] rfl ?_
                simp only [go_sem]
                refine AWp.seq fun K25 hK25 => ?_
                refine AWp.rs fun K26 hK26 => ?_
                try simp only [go_sem]
                refine hK26 _ _ ?_
                try clear hK26 K26
                refine AWp.block ?_
                refine AWp.ownNilS 15 5 rfl rfl (by decide) fun w1 fw1 => ?_
                try simp only [freshT] at fw1
                simp only [go_sem]
                refine AWp.loopS [true, true] [false, false, true, true] (fun n lc hc => ∃ (q w2 : Nat), n = s.tos.length - q ∧ EqS lc [(15, .own w2 5 ((s.tos.map (letD s)).take q)), (16, .d (.int .i64 (q : Nat)))] ∧ EqS hc (⟨[(b6, ⟨6, 1, [[.d (.int .i64 0), .d (.str []), .d (.str []), .nils, .d (.str []), .d (.bool false)]]⟩), (b3, ⟨6, 1, [[.d (.int .i64 s.step), .d (.str s.fl), .d (.str s.fd), .d (.slc 2 (adsD s.tos)), .d (.str s.text), .d (.bool s.large)]]⟩)], [w2]⟩) ∧ (q ≤ s.tos.length)) rfl ?_ ?_
                · refine ⟨_, 0, w1, rfl, ?_, ?_, ?_⟩
                  · (try simp only [go_sem]) <;> first | exact ⟨rfl⟩ | (constructor; simp; done)
                  · (try simp only [go_sem, icast, adD, cmV, snA, fb3, fb6, fw0, fw1]) <;> first | exact ⟨rfl⟩ | (constructor; simp; done)
                  all_goals (first | omega | rfl | (simp; done) | (simp; omega) | assumption)
                · rintro _ _ _ ⟨q, w2, rfl, ⟨rfl⟩, ⟨rfl⟩, g5⟩
                  simp only [go_sem]
                  refine AWp.seq fun K27 hK27 => ?_
                  refine AWp.rs fun K28 hK28 => ?_
                  try simp only [go_sem, fb6]
                  refine hK28 _ _ ?_
                  try clear hK28 K28
                  refine AWp.mask [true, true, true, true, false, false, false, false, true] rfl ?_
                  simp only [go_sem]
                  refine AWp.cond _ rfl (fun hc5 => ?_) (fun hc5 => ?_)
                  · skip
                    try simp only [decide_eq_true_eq] at hc5
                    have hlt : q < s.tos.length := by omega
                    have hki : (q : Int) < (s.tos.length : Int) := by omega
                    refine AWp.skip ?_
                    refine thenQ_n ?_
                    refine hK27 _ _ ?_
                    try clear hK27 K27
                    refine AWp.seq fun K29 hK29 => ?_
                    refine AWp.block ?_
                    refine AWp.dk true [0, 1, 2, 3, 4, 5, 6, 7, 8, 9, 10, 11, 12, 13] rfl (by kernel_rfl) fun K30 hK30 => ?_
                    try simp only [go_sem, adD, fb6, adsD_get s.tos q _ hlt, hki]
                    refine DW.app rfl rfl rfl rfl (show slI Tryd.prog 29 = some (61, 5, 80) by simp only [go_sem]) rfl rfl (by simp only [go_sem]) (by first | exact .inl rfl | exact .inr rfl) (by (try simp only [go_sem, List.length_map, List.length_take, List.length_cons, List.length_nil]); first | done | omega) (by (try simp only [go_sem, List.length_map, List.length_take, List.length_cons, List.length_nil]); first | done | omega) fun t2 ft2 => ?_
                    try simp only [freshT] at ft2
                    try simp only [go_sem]
                    refine hK30 _ _ ?_
                    try clear hK30 K30
                    refine blkQ_n (thenQ_n ?_)
                    refine hK29 _ _ ?_
                    try clear hK29 K29
                    refine AWp.mask [true, true, true, true] rfl ?_
                    simp only [go_sem]
                    refine AWp.rk fun K31 hK31 => ?_
                    try simp only [go_sem, icast]
                    (repeat (with_reducible refine And.intro ?_ ?_; omega))
                    refine hK31 _ _ ?_
                    try clear hK31 K31
                    refine thenQ_n ?_
                    refine EndS.mk [true, true] [false, false, true, true] [] [] [b6, b3] [t2] rfl ?_ ?_
                    · (try simp only [go_sem]) <;> try rfl
                    refine .e ⟨_, ?_, q + 1, t2, rfl, ?_, ?_, ?_⟩
                    · first | omega | (simp; omega) | (grind)
                    · (try simp only [go_sem]) <;> first | exact ⟨rfl⟩ | (constructor; rw [← take_snoc (s.tos.map (letD s)) q (by simpa using hlt)]; simp [letD]; done)
                    · (try simp only [go_sem, fb6]) <;> first | exact ⟨rfl⟩ | (constructor; simp; done)
                    · omega
                  · skip
                    try simp only [decide_eq_false_iff_not, Int.not_lt] at hc5
                    refine AWp.exit ?_
                    refine thenQ_e (thenQ_e (blkQ_e (thenQ_n ?_)))
                    refine hK25 _ _ ?_
                    try clear hK25 K25
                    refine AWp.rs fun K32 hK32 => ?_
                    try simp only [go_sem, fb6]
                    refine hK32 _ _ ?_
                    try clear hK32 K32
                    refine AWp.mask [false, true, true, true, true] rfl ?_
                    simp only [go_sem]
                    refine AWp.ret ?_
                    try simp only [go_sem, fb6]
                    rw [lineR_4 h0 hc2 h2 hc4]; have h9 : (s.tos.map (letD s)).take q = s.tos.map (letD s) := List.take_of_length_le (by simp; omega)
                    rw [h9]; simp [linV, snA, LeA, LeL, LeD, adsD]
              · skip
                try simp only [decide_eq_false_iff_not] at hc4
                refine AWp.skip ?_
                refine thenQ_n ?_
                refine hK22 _ _ ?_
                try clear hK22 K22
                refine AWp.mask [false, true, true, true] rfl ?_
                simp only [go_sem]
                refine AWp.seq fun K33 hK33 => ?_
                refine AWp.rs fun K34 hK34 => ?_
                try simp only [go_sem]
                (repeat (with_reducible refine And.intro ?_ ?_; (intro hg; simp at hg ⊢; first | omega | exact hg | grind)))
                refine hK34 _ _ ?_
                try clear hK34 K34
                refine AWp.mask [true, true, true, false, false, false, false, false, false, false, true] rfl ?_
                simp only [go_sem]
                refine AWp.cond _ rfl (fun hc6 => ?_) (fun hc6 => ?_)
                · skip
                  try simp only [decide_eq_true_eq, Bool.and_eq_true] at hc6
                  have ht := trim_1 hc6
                  refine AWp.rk fun K35 hK35 => ?_
                  try simp only [go_sem]
                  (repeat (with_reducible refine And.intro ?_ ?_; omega))
                  refine hK35 _ _ ?_
                  try clear hK35 K35
                  refine thenQ_n ?_
                  refine hK33 _ _ ?_
                  try clear hK33 K33
                  refine AWp.seq fun K36 hK36 => ?_
                  refine AWp.rs fun K37 hK37 => ?_
                  try simp only [go_sem, fb6]
                  (repeat (with_reducible refine And.intro ?_ ?_; (first | (exact nfB) | (intro hg; simp at hg ⊢; first | omega | exact hg | grind))))
                  refine hK37 _ _ ?_
                  try clear hK37 K37
                  refine AWp.mask [true, true, true, false, false, false, false, false, false, false, false, false, false, false, false, false, true] rfl ?_
                  simp only [go_sem]
                  refine AWp.cond _ rfl (fun hc7 => ?_) (fun hc7 => ?_)
                  · skip
                    try simp only [decide_eq_true_eq, Bool.or_eq_true] at hc7
                    have hb : s.large = true ∨ 1998 < s.text.length + (trimS line).length := by rw [ht]; first | exact hc7 | (simp at hc7 ⊢; omega) | grind
                    refine AWp.rs fun K38 hK38 => ?_
                    try simp only [go_sem, fb6]
                    refine hK38 _ _ ?_
                    try clear hK38 K38
                    refine AWp.rs fun K39 hK39 => ?_
                    try simp only [go_sem, fb6]
                    refine hK39 _ _ ?_
                    try clear hK39 K39
                    refine AWp.mask [false, false, true, true, true, true] rfl ?_
                    simp only [go_sem]
                    refine AWp.ret ?_
                    try simp only [go_sem, fb6]
                    rw [lineR_3 h0 hc2 h2 hc4, bodyS_1 hb]; simp [linV, snA, LeA, LeL, LeD, adsD]
                  · skip
                    try simp only [decide_eq_false_iff_not, Bool.or_eq_false_iff, Int.not_lt] at hc7
                    have hb : ¬ (s.large = true ∨ 1998 < s.text.length + (trimS line).length) := by rw [ht]; first | (rintro (h8 | h8); simp [h8] at hc7; simp [h8] at hc7; omega) | grind
                    refine AWp.skip ?_
                    refine thenQ_n ?_
                    refine hK36 _ _ ?_
                    try clear hK36 K36
                    refine AWp.rs fun K40 hK40 => ?_
                    try simp only [go_sem, fb6]
                    (repeat (with_reducible refine And.intro ?_ ?_; (first | omega | (simp; omega))))
                    refine hK40 _ _ ?_
                    try clear hK40 K40
                    refine AWp.mask [false, true, true] rfl ?_
                    simp only [go_sem]
                    refine AWp.rs fun K41 hK41 => ?_
                    try simp only [go_sem, fb6]
                    refine hK41 _ _ ?_
                    try clear hK41 K41
                    refine AWp.ret ?_
                    try simp only [go_sem, fb6]
                    rw [lineR_3 h0 hc2 h2 hc4, bodyS_2 hb, ht]; simp [linV, snA, LeA, LeL, LeD, adsD]
                · skip
                  try simp only [decide_eq_false_iff_not, Bool.and_eq_false_iff, Int.not_lt] at hc6
                  have ht : trimS line = line := trim_0 (by rintro ⟨h8, h9⟩; first | exact hc6 ⟨h8, h9⟩ | exact hc6 h8 h9 | exact hc6.elim (fun h7 => absurd h8 (by omega)) (fun h7 => h7 h9) | (simp [h8, h9] at hc6))
                  refine AWp.skip ?_
                  refine thenQ_n ?_
                  refine hK33 _ _ ?_
                  try clear hK33 K33
                  refine AWp.seq fun K42 hK42 => ?_
                  refine AWp.rs fun K43 hK43 => ?_
                  try simp only [go_sem, fb6]
                  (repeat (with_reducible refine And.intro ?_ ?_; (first | (exact nfB) | (intro hg; refine ⟨hg, ?_⟩; omega))))
                  refine hK43 _ _ ?_
                  try clear hK43 K43
                  refine AWp.mask [true, true, true, false, false, false, false, false, false, false, false, false, false, false, true] rfl ?_
                  simp only [go_sem]
                  refine AWp.cond _ rfl (fun hc7 => ?_) (fun hc7 => ?_)
                  · skip
                    try simp only [decide_eq_true_eq, Bool.or_eq_true] at hc7
                    have hb : s.large = true ∨ 1998 < s.text.length + (trimS line).length := by rw [ht]; first | exact hc7 | (simp at hc7 ⊢; omega) | grind
                    refine AWp.rs fun K44 hK44 => ?_
                    try simp only [go_sem, fb6]
                    refine hK44 _ _ ?_
                    try clear hK44 K44
                    refine AWp.rs fun K45 hK45 => ?_
                    try simp only [go_sem, fb6]
                    refine hK45 _ _ ?_
                    try clear hK45 K45
                    refine AWp.mask [false, false, true, true, true, true] rfl ?_
                    simp only [go_sem]
                    refine AWp.ret ?_
                    try simp only [go_sem, fb6]
                    rw [lineR_3 h0 hc2 h2 hc4, bodyS_1 hb]; simp [linV, snA, LeA, LeL, LeD, adsD]
                  · skip
                    try simp only [decide_eq_false_iff_not, Bool.or_eq_false_iff, Int.not_lt] at hc7
                    have hb : ¬ (s.large = true ∨ 1998 < s.text.length + (trimS line).length) := by rw [ht]; first | (rintro (h8 | h8); simp [h8] at hc7; simp [h8] at hc7; omega) | grind
                    refine AWp.skip ?_
                    refine thenQ_n ?_
                    refine hK42 _ _ ?_
                    try clear hK42 K42
                    refine AWp.rs fun K46 hK46 => ?_
                    try simp only [go_sem, fb6]
                    (repeat (with_reducible refine And.intro ?_ ?_; (first | omega | (simp; omega))))
                    refine hK46 _ _ ?_
                    try clear hK46 K46
                    refine AWp.mask [false, true, true] rfl ?_
                    simp only [go_sem]
                    refine AWp.rs fun K47 hK47 => ?_
                    try simp only [go_sem, fb6]
                    refine hK47 _ _ ?_
                    try clear hK47 K47
                    refine AWp.ret ?_
                    try simp only [go_sem, fb6]
                    rw [lineR_3 h0 hc2 h2 hc4, bodyS_2 hb, ht]; simp [linV, snA, LeA, LeL, LeD, adsD]
end Go.Proofs.YthpkjmbdjnelfaaDoor

namespace Go.Proofs.YthpkjmbdjnelfaaDoor
set_option linter.unusedSimpArgs false
set_option linter.unusedVariables false
set_option maxRecDepth 4000 in
set_option maxHeartbeats 1000000 in
theorem textsL_c (T : Tbl) (l : List Tx) (hl : l.length ≤ 1048576) : PC Tryd.prog T 10 [.d (.slc 1 (l.map strD))] (.d (.slc 1 (l.map strD))) := by
  refine ⟨Tryd.call10, PCall.enterS Tryd.func10 rfl Tryd.ntmps10 rfl fun hb => ?_⟩
  simp only [go_sem, Tryd.results10]
  refine AWp.rs fun K1 hK1 => ?_
  try simp only [go_sem]
  refine hK1 _ _ ?_
  try clear hK1 K1
  refine AWp.rs fun K2 hK2 => ?_
  try simp only [go_sem]
  refine DW.appNil rfl rfl rfl rfl (show slI Tryd.prog 27 = some (9, 1, 16) by simp only [go_sem]) rfl rfl (by first | exact .inl rfl | exact .inr rfl) (by (try simp only [go_sem, List.length_map]); first | done | omega) (by (try simp only [go_sem, List.length_map]); first | done | omega) fun t1 ft1 => ?_
  try simp only [freshT] at ft1
  try simp only [go_sem]
  refine hK2 _ _ ?_
  try clear hK2 K2
  refine AWp.ret ?_
  try simp only [go_sem]
  try simp [LeA, LeL, LeD]
set_option maxRecDepth 4000 in
set_option maxHeartbeats 1000000 in
theorem sessionsL_c (T : Tbl) (s : Sn) (hB : SnB s) : PC Tryd.prog T 8 [.agg [.d (.int .i64 s.step), .d (.str s.fl), .d (.str s.fd), .d (.slc 2 (adsD s.tos)), .d (.str s.text), .d (.bool s.large)]] (.agg (snA s)) := by
  refine ⟨Tryd.call8, PCall.enterS Tryd.func8 rfl Tryd.ntmps8 rfl fun hb => ?_⟩
  have hc := hB.c
  simp only [go_sem, Tryd.results8]
  refine AWp.rs fun K1 hK1 => ?_
  try simp only [go_sem]
  intro b1
  first | intro fb1 | have fb1 := True.intro
  try simp only [freshL] at fb1
  intro b2
  first | intro fb2 | have fb2 := True.intro
  try simp only [freshL] at fb2
  refine hK1 _ _ ?_
  try clear hK1 K1
  refine AWp.rs fun K2 hK2 => ?_
  try simp only [go_sem, fb2]
  refine DW.appNil rfl rfl rfl rfl (show slI Tryd.prog 24 = some (23, 2, 32) by simp only [go_sem]) rfl rfl (by first | exact .inl rfl | exact .inr rfl) (by (try simp only [go_sem, adsD_len]); first | done | omega) (by (try simp only [go_sem, adsD_len]); first | done | omega) fun t1 ft1 => ?_
  try simp only [freshT] at ft1
  try simp only [go_sem, fb2]
  refine hK2 _ _ ?_
  try clear hK2 K2
  refine AWp.mask [false, true, true] rfl ?_
  simp only [go_sem]
  refine AWp.rs fun K3 hK3 => ?_
  try simp only [go_sem, fb2]
  refine hK3 _ _ ?_
  try clear hK3 K3
  refine AWp.ret ?_
  try simp only [go_sem, fb2]
  simp [snA, LeA, LeL, LeD]
set_option maxRecDepth 4000 in
set_option maxHeartbeats 1000000 in
theorem sameAdL_c (T : Tbl) (l : List Ad) (hl : l.length ≤ 1048576) : PC Tryd.prog T 32 [.d (.slc 2 (adsD l)), .d (.slc 2 (adsD l))] (.d (.bool true)) := by
  refine ⟨Tryd.call32, PCall.enterS Tryd.func32 rfl Tryd.ntmps32 rfl fun hb => ?_⟩
  simp only [go_sem, Tryd.results32]
  refine AWp.rs fun K1 hK1 => ?_
  try simp only [go_sem]
  refine hK1 _ _ ?_
  try clear hK1 K1
  refine AWp.seq fun K2 hK2 => ?_
  refine AWp.rs fun K3 hK3 => ?_
  try simp only [go_sem]
  refine hK3 _ _ ?_
  try clear hK3 K3
  refine AWp.mask [true, true, false, false, false, false, false, true] rfl ?_
  simp only [go_sem]
  refine AWp.cond _ rfl (fun hc0 => ?_) (fun hc0 => ?_)
  · skip
    exact absurd hc0 (by simp)
  · skip
    try simp only [decide_eq_true_eq, Bool.not_eq_false'] at hc0
    refine AWp.skip ?_
    refine thenQ_n ?_
    refine hK2 _ _ ?_
    try clear hK2 K2
    refine AWp.seq fun K4 hK4 => ?_
    refine AWp.rs fun K5 hK5 => ?_
    try simp only [go_sem]
    refine hK5 _ _ ?_
    try clear hK5 K5
    refine AWp.block ?_
    refine AWp.mask [true, true, true] rfl ?_
    simp only [go_sem]
    refine AWp.loopS [true, true] [false, false, true] (fun n lc hc => ∃ (k : Nat), n = l.length - k ∧ EqS lc [(5, .d (.int .i64 k))] ∧ EqS hc (⟨[], []⟩) ∧ (k ≤ l.length)) rfl ?_ ?_
    · refine ⟨_, 0, rfl, ?_, ?_, ?_⟩
      · (try simp only [go_sem]) <;> first | exact ⟨rfl⟩ | (constructor; simp; done)
      · (try simp only [go_sem, icast, adD]) <;> first | exact ⟨rfl⟩ | (constructor; simp; done)
      all_goals (first | omega | rfl | (simp; done) | (simp; omega) | assumption)
    · rintro _ _ _ ⟨k, rfl, ⟨rfl⟩, ⟨rfl⟩, h1⟩
      simp only [go_sem]
      refine AWp.seq fun K6 hK6 => ?_
      refine AWp.rs fun K7 hK7 => ?_
      try simp only [go_sem]
      refine hK7 _ _ ?_
      try clear hK7 K7
      refine AWp.cond _ rfl (fun hc1 => ?_) (fun hc1 => ?_)
      · skip
        try simp only [decide_eq_true_eq] at hc1
        have hlt : k < l.length := by omega
        have hki : (k : Int) < (l.length : Int) := by omega
        refine AWp.skip ?_
        refine thenQ_n ?_
        refine hK6 _ _ ?_
        try clear hK6 K6
        refine AWp.mask [true, true, true] rfl ?_
        simp only [go_sem]
        refine AWp.seq fun K8 hK8 => ?_
        refine AWp.block ?_
        refine AWp.ds true [0, 1, 2, 3, 4, 5, 6, 7, 8] rfl (by kernel_rfl) fun K9 hK9 => ?_
        try simp only [go_sem, adD, adsD_get l k _ hlt, hki]
        refine hK9 _ _ ?_
        try clear hK9 K9
        refine AWp.mask [true, true, true, false, false, false, false, false, false, false, false, true] rfl ?_
        simp only [go_sem]
        refine AWp.cond _ rfl (fun hc2 => ?_) (fun hc2 => ?_)
        · skip
          exact absurd hc2 (by simp)
        · skip
          try simp only [decide_eq_true_eq, Bool.not_eq_false'] at hc2
          refine AWp.skip ?_
          refine blkQ_n (thenQ_n ?_)
          refine hK8 _ _ ?_
          try clear hK8 K8
          refine AWp.rk fun K10 hK10 => ?_
          try simp only [go_sem, icast]
          (repeat (with_reducible refine And.intro ?_ ?_; omega))
          refine hK10 _ _ ?_
          try clear hK10 K10
          refine thenQ_n ?_
          refine EndS.mkr [true, true] [false, false, true] rfl ?_ ?_
          · (try simp only [go_sem]) <;> try rfl
          refine .e ⟨_, ?_, k + 1, rfl, ?_, ?_, ?_⟩
          · first | omega | (simp; omega) | (grind)
          · (try simp only [go_sem]) <;> first | exact ⟨rfl⟩ | (constructor; simp; done)
          · (try simp only [go_sem, icast, adD, adsD_get l k _ hlt, hki]) <;> first | exact ⟨rfl⟩ | (constructor; simp; done)
          all_goals (first | omega | assumption | grind)
      · skip
        try simp only [decide_eq_false_iff_not, Int.not_lt] at hc1
        refine AWp.exit ?_
        refine thenQ_e (thenQ_e (blkQ_e (thenQ_n ?_)))
        refine hK4 _ _ ?_
        try clear hK4 K4
        refine AWp.mask [] rfl ?_
        simp only [go_sem]
        refine AWp.rs fun K11 hK11 => ?_
        try simp only [go_sem]
        refine hK11 _ _ ?_
        try clear hK11 K11
        refine AWp.ret ?_
        try simp only [go_sem]
        try simp [LeA, LeL, LeD]
set_option maxRecDepth 4000 in
set_option maxHeartbeats 1000000 in
theorem sameLet_c (T : Tbl) (s : Sn) (l : List Ad) (hl : l.length ≤ 1048576) : PC Tryd.prog T 13 [.d (.slc 5 (l.map (letD s))), .d (.slc 5 (l.map (letD s)))] (.d (.bool true)) := by
  refine ⟨Tryd.call13, PCall.enterS Tryd.func13 rfl Tryd.ntmps13 rfl fun hb => ?_⟩
  simp only [go_sem, Tryd.results13]
  refine AWp.rs fun K1 hK1 => ?_
  try simp only [go_sem]
  refine hK1 _ _ ?_
  try clear hK1 K1
  refine AWp.seq fun K2 hK2 => ?_
  refine AWp.rs fun K3 hK3 => ?_
  try simp only [go_sem]
  refine hK3 _ _ ?_
  try clear hK3 K3
  refine AWp.mask [true, true, false, false, false, false, false, true] rfl ?_
  simp only [go_sem]
  refine AWp.cond _ rfl (fun hc0 => ?_) (fun hc0 => ?_)
  · skip
    exact absurd hc0 (by simp)
  · skip
    try simp only [decide_eq_true_eq, Bool.not_eq_false'] at hc0
    refine AWp.skip ?_
    refine thenQ_n ?_
    refine hK2 _ _ ?_
    try clear hK2 K2
    refine AWp.seq fun K4 hK4 => ?_
    refine AWp.rs fun K5 hK5 => ?_
    try simp only [go_sem]
    refine hK5 _ _ ?_
    try clear hK5 K5
    refine AWp.block ?_
    refine AWp.mask [true, true, true] rfl ?_
    simp only [go_sem]
    refine AWp.loopS [true, true] [false, false, true] (fun n lc hc => ∃ (k : Nat), n = l.length - k ∧ EqS lc [(5, .d (.int .i64 k))] ∧ EqS hc (⟨[], []⟩) ∧ (k ≤ l.length)) rfl ?_ ?_
    · refine ⟨_, 0, rfl, ?_, ?_, ?_⟩
      · (try simp only [go_sem]) <;> first | exact ⟨rfl⟩ | (constructor; simp; done)
      · (try simp only [go_sem, icast, letD]) <;> first | exact ⟨rfl⟩ | (constructor; simp; done)
      all_goals (first | omega | rfl | (simp; done) | (simp; omega) | assumption)
    · rintro _ _ _ ⟨k, rfl, ⟨rfl⟩, ⟨rfl⟩, h1⟩
      simp only [go_sem]
      refine AWp.seq fun K6 hK6 => ?_
      refine AWp.rs fun K7 hK7 => ?_
      try simp only [go_sem]
      refine hK7 _ _ ?_
      try clear hK7 K7
      refine AWp.cond _ rfl (fun hc1 => ?_) (fun hc1 => ?_)
      · skip
        try simp only [decide_eq_true_eq] at hc1
        have hlt : k < l.length := by omega
        have hki : (k : Int) < (l.length : Int) := by omega
        refine AWp.skip ?_
        refine thenQ_n ?_
        refine hK6 _ _ ?_
        try clear hK6 K6
        refine AWp.mask [true, true, true] rfl ?_
        simp only [go_sem]
        refine AWp.seq fun K8 hK8 => ?_
        refine AWp.block ?_
        refine AWp.ds true [0, 1, 2, 3, 4, 5, 6, 7, 8] rfl (by kernel_rfl) fun K9 hK9 => ?_
        try simp only [go_sem, letD, map_getD (letD s) l k _ hlt, hki]
        refine hK9 _ _ ?_
        try clear hK9 K9
        refine AWp.mask [true, true, true, false, false, false, false, false, false, false, false, true] rfl ?_
        simp only [go_sem]
        refine AWp.cond _ rfl (fun hc2 => ?_) (fun hc2 => ?_)
        · skip
          exact absurd hc2 (by simp)
        · skip
          try simp only [decide_eq_true_eq, Bool.not_eq_false'] at hc2
          refine AWp.skip ?_
          refine blkQ_n (thenQ_n ?_)
          refine hK8 _ _ ?_
          try clear hK8 K8
          refine AWp.rk fun K10 hK10 => ?_
          try simp only [go_sem, icast]
          (repeat (with_reducible refine And.intro ?_ ?_; omega))
          refine hK10 _ _ ?_
          try clear hK10 K10
          refine thenQ_n ?_
          refine EndS.mkr [true, true] [false, false, true] rfl ?_ ?_
          · (try simp only [go_sem]) <;> try rfl
          refine .e ⟨_, ?_, k + 1, rfl, ?_, ?_, ?_⟩
          · first | omega | (simp; omega) | (grind)
          · (try simp only [go_sem]) <;> first | exact ⟨rfl⟩ | (constructor; simp; done)
          · (try simp only [go_sem, icast, letD, map_getD (letD s) l k _ hlt, hki]) <;> first | exact ⟨rfl⟩ | (constructor; simp; done)
          all_goals (first | omega | assumption | grind)
      · skip
        try simp only [decide_eq_false_iff_not, Int.not_lt] at hc1
        refine AWp.exit ?_
        refine thenQ_e (thenQ_e (blkQ_e (thenQ_n ?_)))
        refine hK4 _ _ ?_
        try clear hK4 K4
        refine AWp.mask [] rfl ?_
        simp only [go_sem]
        refine AWp.rs fun K11 hK11 => ?_
        try simp only [go_sem]
        refine hK11 _ _ ?_
        try clear hK11 K11
        refine AWp.ret ?_
        try simp only [go_sem]
        try simp [LeA, LeL, LeD]
set_option maxRecDepth 4000 in
set_option maxHeartbeats 1000000 in
theorem sameSes_c (T : Tbl) (s : Sn) (hl : s.tos.length ≤ 1048576) : PC Tryd.prog T 12 [.agg [.d (.int .i64 s.step), .d (.str s.fl), .d (.str s.fd), .d (.slc 2 (adsD s.tos)), .d (.str s.text), .d (.bool s.large)], .agg [.d (.int .i64 s.step), .d (.str s.fl), .d (.str s.fd), .d (.slc 2 (adsD s.tos)), .d (.str s.text), .d (.bool s.large)]] (.d (.bool true)) := by
  refine ⟨Tryd.call12, PCall.enterS Tryd.func12 rfl Tryd.ntmps12 rfl fun hb => ?_⟩
  simp only [go_sem, Tryd.results12]
  refine AWp.rs fun K1 hK1 => ?_
  try simp only [go_sem, Bool.true_and]
  intro b2
  first | intro fb2 | have fb2 := True.intro
  try simp only [freshL] at fb2
  intro b3
  first | intro fb3 | have fb3 := True.intro
  try simp only [freshL] at fb3
  refine hK1 _ _ ?_
  try clear hK1 K1
  refine AWp.rs fun K2 hK2 => ?_
  try simp only [go_sem, decide_true, Bool.true_and, fb3]
  refine DW.pcgr rfl rfl rfl rfl rfl (fun hg => sameAdL_c T _ hl) (fun hg => by (try simp only [go_sem, Bool.true_and]) <;> first | exact hg | (exfalso; simp at hg; done) | (simpa using hg) | grind) rfl rfl ?_
  try simp only [go_sem, decide_true, Bool.true_and, fb3]
  refine hK2 _ _ ?_
  try clear hK2 K2
  refine AWp.mask [false, false, false, false, true] rfl ?_
  simp only [go_sem]
  refine AWp.ret ?_
  try simp only [go_sem]
  try simp [LeA, LeL, LeD]
theorem cm_len (known : List Tx) (line : Tx) (s : Sn) (h : s.tos.length ≤ 5) : (cmdL known line s).1.tos.length ≤ 6 := by
  unfold cmdL mailS rcptS
  repeat' split
  all_goals (first | (simp; omega) | (simp; done) | omega)
theorem line_len (known : List Tx) (line : Tx) (s : Sn) (hB : SnB s) : (lineR known line s).1.tos.length ≤ 1048576 := by
  by_cases h0 : sesV s = 0
  · have k3 := (sesV_inv h0).len
    have hc := hB.c
    by_cases h1 : s.step = 5
    · rw [lineR_1 h0 h1]; exact hc
    · by_cases h2 : s.step = 4
      · by_cases h3 : line = [46]
        · rw [lineR_4 h0 h1 h2 h3]; simp
        · rw [lineR_3 h0 h1 h2 h3]
          show (bodyS line s).tos.length ≤ _
          unfold bodyS
          split <;> exact hc
      · rw [lineR_2 h0 h1 h2]
        have := cm_len known line s k3
        show (cmdL known line s).1.tos.length ≤ _
        omega
  · rw [lineR_0 h0]; simp
theorem line_let (known : List Tx) (line : Tx) (s : Sn) (hB : SnB s) : ∃ l : List Ad, l.length ≤ 1048576 ∧ (lineR known line s).2.2.1 = l.map (letD s) := by
  by_cases h0 : sesV s = 0
  · by_cases h1 : s.step = 5
    · exact ⟨[], by simp, by rw [lineR_1 h0 h1]; rfl⟩
    · by_cases h2 : s.step = 4
      · by_cases h3 : line = [46]
        · exact ⟨s.tos, hB.c, by rw [lineR_4 h0 h1 h2 h3]⟩
        · exact ⟨[], by simp, by rw [lineR_3 h0 h1 h2 h3]; rfl⟩
      · exact ⟨[], by simp, by rw [lineR_2 h0 h1 h2]; rfl⟩
  · exact ⟨[], by simp, by rw [lineR_0 h0]; rfl⟩
set_option maxRecDepth 4000 in
set_option maxHeartbeats 1000000 in
theorem lmtpLines_c (T : Tbl) (hL : LibT T) (known : List Tx) (hkn : known.length ≤ 1048576) (line : Tx) (hln : line.length ≤ 1048576) (s : Sn) (hB : SnB s) : PC Tryd.prog T 3 [.agg [.d (.int .i64 s.step), .d (.str s.fl), .d (.str s.fd), .d (.slc 2 (adsD s.tos)), .d (.str s.text), .d (.bool s.large)], .d (.slc 1 (known.map strD)), .d (.str line)] (.d (.bool true)) := by
  refine ⟨Tryd.call3, PCall.enterS Tryd.func3 rfl Tryd.ntmps3 rfl fun hb => ?_⟩
  obtain ⟨l, hll, hle⟩ := line_let known line s hB
  have hlt := line_len known line s hB
  simp only [go_sem, Tryd.results3]
  refine AWp.rs fun K1 hK1 => ?_
  try simp only [go_sem, Bool.true_and]
  intro b3
  first | intro fb3 | have fb3 := True.intro
  try simp only [freshL] at fb3
  refine hK1 _ _ ?_
  try clear hK1 K1
  refine AWp.rs fun K2 hK2 => ?_
  try simp only [go_sem]
  refine DW.pcr rfl rfl rfl rfl (sessionsL_c T s hB) rfl rfl ?_
  try simp only [go_sem, snA, Bool.true_and]
  intro b7
  first | intro fb7 | have fb7 := True.intro
  try simp only [freshL] at fb7
  refine hK2 _ _ ?_
  try clear hK2 K2
  refine AWp.mask [false, true, true, true, false, true] rfl ?_
  simp only [go_sem]
  refine AWp.iceP 7 [[.int .i64 s.step, .str s.fl, .str s.fd, .slc 2 (adsD s.tos), .str s.text, .bool s.large]] rfl rfl (Nat.zero_lt_succ _) (by decide) (by simp) ?_
  simp only [go_sem]
  · skip
    refine AWp.dsF true [] [0] [1, 2, 3, 4, 5, 6, 7, 8, 9, 10, 11, 12, 13, 14] rfl (by kernel_rfl) fun K3 hK3 => ?_
    try simp only [go_sem]
    try with_reducible refine Exists.intro _ (And.intro (fun _ => (by first | rfl | (simp only [go_sem, linV, snA, decide_true, Bool.true_and, hle, fb3, fb7]; first | done | rfl | exact ⟨by omega, rfl⟩))) ?_)
    refine DW.pcr rfl rfl rfl rfl (textsL_c T known hkn) rfl rfl ?_
    try simp only [go_sem]
    refine DW.pcr rfl rfl rfl rfl (Line_c T hL known hkn line hln s hB) rfl rfl ?_
    try simp only [go_sem, linV, snA, Bool.true_and, hle]
    intro b8
    first | intro fb8 | have fb8 := True.intro
    try simp only [freshL] at fb8
    refine hK3 _ _ ?_
    try clear hK3 K3
    refine AWp.mask [true, true, true, true, true, true, true, true] rfl ?_
    simp only [go_sem]
    refine AWp.rs fun K4 hK4 => ?_
    try simp only [go_sem, fb8]
    refine DW.pcr rfl rfl rfl rfl (Lined_c T known hkn line hln s hB) rfl rfl ?_
    try simp only [go_sem, linV, snA, Bool.true_and, hle]
    intro b12
    first | intro fb12 | have fb12 := True.intro
    try simp only [freshL] at fb12
    refine hK4 _ _ ?_
    try clear hK4 K4
    refine AWp.mask [false, false, true, true, true, true, true, true, true, true, true, true] rfl ?_
    simp only [go_sem]
    refine AWp.rs fun K5 hK5 => ?_
    try simp only [go_sem, decide_true, Bool.true_and, fb8, fb12]
    refine DW.pcgr rfl rfl rfl rfl rfl (fun hg => sameSes_c T (lineR known line s).1 hlt) (fun hg => by (try simp only [go_sem, Bool.true_and]) <;> first | exact hg | (exfalso; simp at hg; done) | (simpa using hg) | grind) rfl rfl ?_
    try simp only [go_sem, Bool.true_and]
    refine DW.pcgr rfl rfl rfl rfl rfl (fun hg => sameLet_c T s l hll) (fun hg => by (try simp only [go_sem, Bool.true_and]) <;> first | exact hg | (exfalso; simp at hg; done) | (simpa using hg) | grind) rfl rfl ?_
    try simp only [go_sem, Bool.true_and, fb8, fb12]
    refine DW.pcgr rfl rfl rfl rfl rfl (fun hg => sameSes_c T s hB.c) (fun hg => by (try simp only [go_sem, Bool.true_and]) <;> first | exact hg | (exfalso; simp at hg; done) | (simpa using hg) | grind) rfl rfl ?_
    try simp only [go_sem, Bool.true_and]
    refine hK5 _ _ ?_
    try clear hK5 K5
    refine AWp.mask [false, true] rfl ?_
    simp only [go_sem]
    refine AWp.ret ?_
    try simp only [go_sem]
    try simp [LeA, LeL, LeD]
end Go.Proofs.YthpkjmbdjnelfaaDoor

namespace Go.Proofs.YthpkjmbdjnelfaaDoor
open Go.RowKit Go.ChangeShapes Go.WideShapes Go.ChangeAt
set_option linter.unusedSimpArgs false
set_option linter.unusedVariables false
open Go.ChangeShapes Go.WideShapes Go.ChangeAt
open Go.ChangeMaps (open_string)
set_option maxRecDepth 100000
section
variable {H : Type} {enc : TypeId × Value → H} {W : World}
theorem dec_adr (f : Nat) : Dec enc Tryd.prog W adD (fun p => p.1.length + p.2.length + 1) 23 f := by
  cases f with
  | zero => exact .zero
  | succ f =>
    have hs : Dec enc Tryd.prog W (fun s : List UInt8 => [.str s]) (fun s => s.length + 1) 9 f := Dec.str Tryd.underlying9
    exact (Dec.struct Tryd.underlying23 (by kernel_rfl) (.cons (k := 1) hs (by kernel_rfl) rfl (.cons (k := 1) hs (by kernel_rfl) rfl .nil))).map
        (fun (p : Tx × (Tx × Unit)) => (p.1, p.2.1)) (fun p => rfl) (fun p => by dsimp only; omega)
theorem dec_adrs (f : Nat) : Dec enc Tryd.prog W (fun l : List Ad => [.slc 2 (l.map adD)]) (fun l => (l.map fun p => p.1.length + p.2.length + 1).sum + 1) 24 f := by
  cases f with
  | zero => exact .zero
  | succ f => exact Dec.slc (dec_adr f) Tryd.underlying24 (by kernel_rfl) (fun _ => rfl) (by decide)
theorem dec_strs (f : Nat) : Dec enc Tryd.prog W (fun l : List Tx => [.slc 1 (l.map strD)]) (fun l => (l.map fun s => s.length + 1).sum + 1) 27 f := by
  cases f with
  | zero => exact .zero
  | succ f =>
    have hs : Dec enc Tryd.prog W strD (fun s => s.length + 1) 9 f := Dec.str Tryd.underlying9
    exact Dec.slc hs Tryd.underlying27 (by kernel_rfl) (fun _ => rfl) (by decide)
def snD (s : Sn) : List D := [.int .i64 s.step, .str s.fl, .str s.fd, .slc 2 (adsD s.tos), .str s.text, .bool s.large]
def snZ (s : Sn) : Nat := s.fl.length + s.fd.length + (s.tos.map fun p => p.1.length + p.2.length + 1).sum + s.text.length
theorem dec_ses (f : Nat) : Dec enc Tryd.prog W snD snZ 26 f := by
  cases f with
  | zero => exact .zero
  | succ f =>
    have hi : Dec enc Tryd.prog W (fun n : Int => [.int .i64 n]) (fun _ => 1) 3 f := Dec.int Tryd.underlying3
    have hs : Dec enc Tryd.prog W (fun s : List UInt8 => [.str s]) (fun s => s.length + 1) 9 f := Dec.str Tryd.underlying9
    have hb : Dec enc Tryd.prog W (fun n : Bool => [.bool n]) (fun _ => 1) 4 f := Dec.bool Tryd.underlying4
    exact (Dec.struct Tryd.underlying26 (by kernel_rfl) (.cons (k := 1) hi (by kernel_rfl) rfl (.cons (k := 2) (dec_adr f) (by kernel_rfl) rfl (.cons (k := 1) (dec_adrs f) (by kernel_rfl) rfl (.cons (k := 1) hs (by kernel_rfl) rfl (.cons (k := 1) hb (by kernel_rfl) rfl .nil)))))).map
        (fun (p : Int × (Ad × (List Ad × (Tx × (Bool × Unit))))) => Sn.mk p.1 p.2.1.1 p.2.1.2 p.2.2.1 p.2.2.2.1 p.2.2.2.2.1) (fun p => rfl) (fun p => by dsimp only [snZ]; omega)
end
theorem cells_one {v : Value} {d : D} {F : Frz} (h : VDs F [d] v.cells.toList) (hv : v.oneCell' = true) : VD F d v := by
  obtain ⟨u, h1, h2⟩ := h.2 0 d rfl
  have : v.cells.toList = [v] := by cases v <;> first | rfl | (simp [Value.oneCell'] at hv)
  rw [this] at h1
  injection h1 with h1
  rw [h1]; exact h2
theorem sum_mem {α : Type} (f : α → Nat) : ∀ {l : List α} {x : α}, x ∈ l → f x ≤ (l.map f).sum
  | a :: l, x, h => by
    rw [List.map_cons, List.sum_cons]
    rcases List.mem_cons.1 h with rfl | h
    · omega
    · have := sum_mem f h; omega
theorem len_sum : ∀ l : List Tx, l.length ≤ (l.map fun s => s.length + 1).sum
  | [] => by simp
  | x :: l => by
    have := len_sum l
    rw [List.map_cons, List.sum_cons, List.length_cons]; omega
theorem len_sum2 : ∀ l : List Ad, l.length ≤ (l.map fun p => p.1.length + p.2.length + 1).sum
  | [] => by simp
  | x :: l => by
    have := len_sum2 l
    rw [List.map_cons, List.sum_cons, List.length_cons]; omega
theorem lmtpLines_run {H : Type} {enc : TypeId × Value → H} (W : World) (base : Nat) (v0 v1 v2 : Value) (d0 : DataW H) (p0 : List MemPlace) (d1 : DataW H) (p1 : List MemPlace) (d2 : DataW H) (p2 : List MemPlace)
    (k0 : Value.okWide Tryd.prog W .any base 26 v0) (h0 : DataW.Trod enc Tryd.prog W 0 (fun _ => true) true 26 v0 d0 p0) (k1 : Value.okWide Tryd.prog W .any base 27 v1) (h1 : DataW.Trod enc Tryd.prog W 0 (fun _ => true) true 27 v1 d1 p1) (k2 : Value.okWide Tryd.prog W .any base 9 v2) (h2 : DataW.Trod enc Tryd.prog W 0 (fun _ => true) true 9 v2 d2 p2) (t0 : Tiny d0) (t1 : Tiny d1) (t2 : Tiny d2)
    (hL : laidMetH Tryd.prog Rows.lmtpLinesRow.laid W) (hsh : W.ShapedOpen Tryd.prog) :
    Calls Tryd.prog 3 #[v0, v1, v2] W fun e W' => e = .returned (.bool true) ∧ Below W.heap.size W W' := by
  obtain ⟨cs, rfl, hsz⟩ := okWide_struct Tryd.underlying26 k0
  obtain ⟨a, n, c, rfl⟩ := okWide_slice Tryd.underlying27 k1
  obtain ⟨z, rfl, rfl, rfl, hzs⟩ := open_string Tryd.underlying9 k2 h2
  obtain ⟨s, hx, hr⟩ := Dec.open_ dec_ses h0 t0
  obtain ⟨known, hx1, hr1⟩ := Dec.open_ dec_strs h1 t1
  obtain ⟨line, hx2, hr2⟩ := Dec.open_ (fun f => Dec.str (f := f) Tryd.underlying9) h2 t2
  have hr : snZ s ≤ 1048576 := hr
  have hr1 : (known.map fun s => s.length + 1).sum + 1 ≤ 1048576 := hr1
  have hr2 : line.length + 1 ≤ 1048576 := hr2
  have hkl := len_sum known
  have htl := len_sum2 s.tos
  unfold snZ at hr
  have hB : SnB s := ⟨by omega, by omega, by omega, fun x hx => by have := sum_mem (fun p : Ad => p.1.length + p.2.length + 1) hx; exact ⟨by omega, by omega⟩, by omega⟩
  have hx : VDs (frzW W) (snD s) cs.toList := hx
  obtain ⟨_, m, hm⟩ := Lib0.open_ hsh
  refine law_calls (T := libT m) (lmtpLines_c (libT m) (libT_lib m) known (by omega) line (by omega) s hB) (libT_ok hm) ⟨rfl, fun i a ha => ?_⟩
  match i, ha with
  | 0, ha =>
    simp at ha
    subst ha
    exact ⟨_, rfl, hx.agg (G := gh0 W (frzW W))⟩
  | 1, ha =>
    simp at ha
    subst ha
    exact ⟨_, rfl, .d (cells_one hx1 rfl)⟩
  | 2, ha =>
    simp at ha
    subst ha
    exact ⟨_, rfl, .d (cells_one hx2 rfl)⟩
  | i + 3, ha => simp at ha
end Go.Proofs.YthpkjmbdjnelfaaDoor

/- Texts that the law LetterValues rests on, packed. -/
import Derived.Test.YthhfbolhlbgbgaaDoorGD
import Derived.Test.YthhfbolhlbgbgaaDoorGW
import Derived.Test.YthhfbolhlbgbgaaDoorGR
namespace Go.Proofs.YthhfbolhlbgbgaaDoor
open Go.RowKit
set_option linter.unusedSimpArgs false
set_option linter.unusedVariables false

/-- P1.1 -/
def small (c : UInt8) : UInt8 := if 65 ≤ c.toNat ∧ c.toNat ≤ 90 then c + 32 else c
def foldL (s : ByteArray) : List UInt8 := (bs s).map small
theorem foldL_len (s : ByteArray) : (foldL s).length = s.size := by simp [foldL, bs_len]
theorem foldL_get (s : ByteArray) (j : Nat) (hj : j < s.size) : (foldL s)[j]? = some (small s[j]) := by simp [foldL, bs_get s j hj]

theorem small_yes (c : UInt8) (h1 : 65 ≤ (c.toNat : Int)) (h2 : (c.toNat : Int) ≤ 90) : ((small c).toNat : Int) = (c.toNat : Int) + 32 := by
  have : small c = c + 32 := if_pos ⟨by omega, by omega⟩
  rw [this, UInt8.toNat_add]
  have : (32 : UInt8).toNat = 32 := rfl
  rw [this]; omega
theorem small_no (c : UInt8) (h : (c.toNat : Int) < 65 ∨ 90 < (c.toNat : Int)) : small c = c := if_neg (by omega)

set_option maxRecDepth 20000 in
theorem small_any (c : UInt8) (w : World) :
    Calls Tryd.prog 138 #[.int .u8 c.toNat] w fun e w' => e = .returned (bv (small c)) ∧ w = w' := by
  have hu : (c.toNat : Int) < 256 := by have := c.toNat_lt; omega
  by_cases h : 65 ≤ (c.toNat : Int) ∧ (c.toNat : Int) ≤ 90
  · obtain ⟨h1, h2⟩ := h
    have HS := Lib.hid (small_yes c h1 h2)
    go_enter Tryd.func138, Tryd.ntmps138
    go_wp2
    go_ret
    exact ⟨by unfold bv; rw [HS.out]; go_num, rfl⟩
  · have HS := Lib.hid (small_no c (by omega))
    have h' : (c.toNat : Int) < 65 ∨ 90 < (c.toNat : Int) := by omega
    clear h
    rcases h' with h' | h'
    all_goals
      go_enter Tryd.func138, Tryd.ntmps138
      go_wp2
      go_ret
      exact ⟨by rw [HS.out]; rfl, rfl⟩

theorem fold_any (s : ByteArray) (w : World) (hs : s.size ≤ 1000000) :
    Calls Tryd.prog 117 #[.string s] w fun e w' => e = .returned (.string (mk (foldL s))) ∧ Below w.heap.size w w' := by
  go_enter Tryd.func117, Tryd.ntmps117
  go_wp2_with (refine wpList_bytes_of rfl _ 9 33 5 rfl Tryd.underlying9 Tryd.underlying33 Tryd.underlying5 rfl ?_; intro cap w1 hf)
  have HF := Lib.hid hf
  clear hf
  go_loopw [4, 5, 10] (fun x4 x5 i wr => ∃ k : Nat, k ≤ s.size ∧ i = .int .i64 k ∧ Below w.heap.size w wr ∧
      (∀ (j : Nat) (hj : j < s.size), wr.cell? ⟨w.heap.size, j, none⟩ = some (bv (if j < k then small s[j] else s[j]))) ∧ ∀ j : Nat, j < s.size → wr.frozen? ⟨w.heap.size, j, none⟩ = false)
    (fun _ _ i _ => s.size - (intOf i).toNat)
  case atStart => exact ⟨0, Nat.zero_le _, rfl, HF.out.below, fun j hj => by simpa using HF.out.cell j hj, HF.out.free⟩
  case round =>
    obtain ⟨k, hk, rfl, hb, hc, hz⟩ := hrel
    by_cases hlt : k < s.size
    · have hck : wr.cell? ⟨w.heap.size, k, none⟩ = some (.int .u8 s[k].toNat) := by simpa [bv] using hc k hlt
      have hzk := hz k hlt
      have HC := Lib.hid hc
      have HZ := Lib.hid hz
      clear hc hz
      go_wp2_with (go_at_call 138; refine (small_any _ _).mono ?_; rintro e w' ⟨rfl, rfl⟩; unfold bv)
      go_roundw
      case rel =>
        refine ⟨k + 1, by omega, by go_num, hb.setCell (Nat.le_refl _) _, fun j hj => ?_, fun j hj => by simpa using HZ.out j hj⟩
        by_cases e : j = k
        · subst e
          rw [World.cell?_setCell_same _ _ _ hck, if_pos (by omega)]; rfl
        · rw [World.cell?_setCell_other _ _ _ _ (by intro h; injection h; omega), HC.out j hj]
          by_cases hjk : j < k
          · rw [if_pos hjk, if_pos (by omega)]
          · rw [if_neg hjk, if_neg (by omega)]
      case measure => simp [intOf]; omega
    · have hks : k = s.size := by omega
      subst hks
      have HR : Sl wr (fun b => b = w.heap.size) 1 (some ⟨w.heap.size, 0, none⟩) s.size ((foldL s).map bv) :=
        Sl.of_cells rfl (by simp [foldL_len]) (fun j u hu => by
          rw [List.getElem?_map, Option.map_eq_some_iff] at hu
          obtain ⟨x, hx, rfl⟩ := hu
          have hj : j < s.size := by rw [← foldL_len]; exact (List.getElem?_eq_some_iff.1 hx).1
          rw [foldL_get s j hj] at hx
          injection hx with hx
          subst hx
          rw [Nat.zero_add, hc j hj, if_pos hj])
      clear hc hz
      have HR' := Lib.hid HR
      clear HR
      go_wp2_with (refine wpList_string_of rfl _ 33 9 5 rfl Tryd.underlying33 Tryd.underlying5 Tryd.underlying9 rfl HR'.out ?_)
      go_ret
      exact ⟨rfl, hb⟩
end Go.Proofs.YthhfbolhlbgbgaaDoor

namespace Go.Proofs.YthhfbolhlbgbgaaDoor
open Go.RowKit
set_option linter.unusedSimpArgs false
set_option linter.unusedVariables false

theorem el_u8 : Elem Tryd.prog 33 5 1 1 := ⟨Tryd.underlying33, by kernel_rfl, by decide⟩
theorem bv_one (l : List UInt8) : ∀ u ∈ l.map bv, u.oneCell' = true := by
  intro u hu
  obtain ⟨b, _, rfl⟩ := List.mem_map.1 hu
  rfl
theorem one_one (v : Value) (h : v.oneCell' = true) : ∀ u ∈ [v], u.oneCell' = true := by
  intro u hu
  rw [List.mem_singleton] at hu
  rw [hu]; exact h

set_option maxRecDepth 20000 in
theorem lower_any (s : ByteArray) (w : World) (hs : s.size ≤ 1000000) :
    Calls Tryd.prog 120 #[.string s] w fun e w' => e = .returned (.string (mk (foldL s))) ∧ Below w.heap.size w w' := by
  go_enter Tryd.func120, Tryd.ntmps120
  go_wp2_with fail
  go_loopw [3, 4, 5] (fun v i x5 wr => ∃ k : Nat, k ≤ s.size ∧ i = .int .i64 k ∧ Below w.heap.size w wr ∧ wr.ownsRow w.heap.size 5 1 v k (((foldL s).take k).map bv))
    (fun _ i _ _ => s.size - (intOf i).toNat)
  case atStart => exact ⟨0, Nat.zero_le _, rfl, Below.refl _ _, World.ownsRow_nil _ _ _ _⟩
  case round =>
    obtain ⟨k, hk, rfl, hb, hown⟩ := hrel
    have HO := Lib.hid hown
    clear hown
    by_cases hlt : k < s.size
    · have hu : (s[k].toNat : Int) < 256 := by have := s[k].toNat_lt; omega
      have HT := Lib.hid (show (foldL s).take (k + 1) = (foldL s).take k ++ [small s[k]] by
        rw [List.take_add_one, foldL_get s k hlt]; rfl)
      by_cases h : 65 ≤ (s[k].toNat : Int) ∧ (s[k].toNat : Int) ≤ 90
      · obtain ⟨h1, h2⟩ := h
        have HS := Lib.hid (small_yes s[k] h1 h2)
        go_wp2_with (first
          | (go_at_call 56; refine (In_yes _ _ _ _ h1 h2).mono ?_; rintro e w' ⟨rfl, rfl⟩)
          | (refine wpList_append_sl el_u8 rfl _ _ rfl rfl (HO.out.alloc _) rfl (Sl.new _ _ _ 1 rfl) (one_one _ rfl) (by simp) (by unfold maxLen; omega) (by omega) (by have := hb.size; simp; omega) ?_; intro A1 c1 w1 hown' hgr hb1))
        go_roundw
        case rel =>
          refine ⟨k + 1, by omega, by go_num, (hb.alloc hb.size _).trans hb1, ?_⟩
          rw [HT.out, List.map_append]
          simpa [bv, HS.out] using hown'
        case measure => simp [intOf]; omega
      · have h' : (s[k].toNat : Int) < 65 ∨ 90 < (s[k].toNat : Int) := by omega
        have HS := Lib.hid (small_no s[k] h')
        clear h
        rcases h' with h' | h'
        all_goals
          go_wp2_with (first
            | (go_at_call 56; refine (In_no _ _ _ _ ?_).mono ?_; omega; rintro e w' ⟨rfl, rfl⟩)
            | (refine wpList_append_sl el_u8 rfl _ _ rfl rfl (HO.out.alloc _) rfl (Sl.new _ _ _ 1 rfl) (one_one _ rfl) (by simp) (by unfold maxLen; omega) (by omega) (by have := hb.size; simp; omega) ?_; intro A1 c1 w1 hown' hgr hb1))
          go_roundw
          case rel =>
            refine ⟨k + 1, by omega, by go_num, (hb.alloc hb.size _).trans hb1, ?_⟩
            rw [HT.out, List.map_append]
            simpa [bv, HS.out] using hown'
          case measure => simp [intOf]; omega
    · have hks : k = s.size := by omega
      subst hks
      have HW := Lib.hid (show (foldL s).take s.size = foldL s from List.take_of_length_le (by rw [foldL_len]; omega))
      obtain ⟨A, c, rfl, _, _⟩ := own_form HO.out
      go_wp2_with (refine wpList_string_of (l := foldL s) rfl _ 33 9 5 rfl Tryd.underlying33 Tryd.underlying5 Tryd.underlying9 rfl (by rw [← HW.out]; exact Sl.of_own HO.out) ?_)
      go_ret
      exact ⟨rfl, hb⟩

end Go.Proofs.YthhfbolhlbgbgaaDoor

namespace Go.Proofs.YthhfbolhlbgbgaaDoor
open Go.RowKit
set_option linter.unusedSimpArgs false
set_option linter.unusedVariables false
open Go.RowKit
theorem foldL_data (t : ByteArray) : (mk (foldL t)).data.toList = t.data.toList.map small := by simp [mk, foldL, bs]
theorem fold_p (T : Tbl) (s : Tx) (h : s.length ≤ 2000) : PC Tryd.prog T 117 [.d (.str s)] (.d (.str (s.map small))) := PC.old Tryd.call117 fun F w vs hF hT R => by
  obtain ⟨v, rfl, hv⟩ := slr1 R
  cases hv with
  | d hv =>
    obtain ⟨t, rfl, e1, _⟩ := hv.str_inv
    subst e1
    have hsz : t.size ≤ 2000 := by rw [← size_data]; exact h
    refine (fold_any t w (by omega)).mono ?_
    rintro e w' ⟨rfl, hb⟩
    refine ⟨_, rfl, hb, ?_⟩
    rw [← foldL_data]
    refine .d (.str _ ?_)
    rw [mk_size, foldL_len]
    unfold maxLen; omega
theorem lower_p (T : Tbl) (s : Tx) (h : s.length ≤ 2000) : PC Tryd.prog T 120 [.d (.str s)] (.d (.str (s.map small))) := PC.old Tryd.call120 fun F w vs hF hT R => by
  obtain ⟨v, rfl, hv⟩ := slr1 R
  cases hv with
  | d hv =>
    obtain ⟨t, rfl, e1, _⟩ := hv.str_inv
    subst e1
    have hsz : t.size ≤ 2000 := by rw [← size_data]; exact h
    refine (lower_any t w (by omega)).mono ?_
    rintro e w' ⟨rfl, hb⟩
    refine ⟨_, rfl, hb, ?_⟩
    rw [← foldL_data]
    refine .d (.str _ ?_)
    rw [mk_size, foldL_len]
    unfold maxLen; omega
end Go.Proofs.YthhfbolhlbgbgaaDoor

namespace Go.Proofs.YthhfbolhlbgbgaaDoor
set_option linter.unusedSimpArgs false
set_option linter.unusedVariables false
/-- the same but for capitals; patterns of bounded length -/
def isM (s p : Tx) : Bool := decide (p.length ≤ 100) && decide (s.map small = p.map small)
theorem isM_big {s p : Tx} (h : 100 < p.length) : isM s p = false := by unfold isM; rw [decide_eq_false (show ¬ p.length ≤ 100 by omega)]; rfl
theorem isM_fit {s p : Tx} (h : ¬ 100 < p.length) : isM s p = decide (s.map small = p.map small) := by unfold isM; rw [decide_eq_true (show p.length ≤ 100 by omega)]; rfl
def txsD (l : List Tx) : List (List D) := l.map fun s => [.str s]
@[go_sem] theorem txsD_len (l : List Tx) : (txsD l).length = l.length := by simp [txsD]
theorem txsD_get {l : List Tx} {i : Nat} {d : List D} (h : i < l.length) : (txsD l).getD i d = [.str (l.getD i [])] := by simp [txsD, List.getD, h]
/-- the values of fields with a name -/
def valsM (l : List (Tx × Tx)) (n : Tx) : List Tx := (l.filter fun f => isM f.1 n).map (·.2)
theorem vals_no {l : List (Tx × Tx)} {n : Tx} {k : Nat} (hk : k < l.length) (h : isM (l.getD k ([], [])).1 n = false) : valsM (l.take (k + 1)) n = valsM (l.take k) n := by
  rw [show l.getD k ([], []) = l[k]'hk by simp [List.getD, hk]] at h
  rw [List.take_add_one, List.getElem?_eq_getElem hk, valsM, List.filter_append]
  simp [h, valsM]
theorem vals_yes {l : List (Tx × Tx)} {n : Tx} {k : Nat} (hk : k < l.length) (h : isM (l.getD k ([], [])).1 n = true) : valsM (l.take (k + 1)) n = valsM (l.take k) n ++ [(l.getD k ([], [])).2] := by
  have e : l.getD k ([], []) = l[k]'hk := by simp [List.getD, hk]
  rw [e] at h ⊢
  rw [List.take_add_one, List.getElem?_eq_getElem hk, valsM, List.filter_append]
  simp [h, valsM]
theorem vals_none {l : List (Tx × Tx)} {n : Tx} (h : 100 < n.length) : valsM l n = [] := by
  unfold valsM
  rw [List.filter_eq_nil_iff.2 (fun f _ => by rw [isM_big h]; decide)]; rfl
theorem vals_len (l : List (Tx × Tx)) (n : Tx) : (valsM l n).length ≤ l.length := by
  unfold valsM; rw [List.length_map]; exact List.length_filter_le _ _
theorem txsD_app (l : List Tx) (x : Tx) : txsD l ++ [[.str x]] = txsD (l ++ [x]) := by simp [txsD]
theorem line_mem : ∀ {l : List (Tx × Tx)} {f : Tx × Tx}, f ∈ l → (lineM f).length ≤ (linesM l).length
  | x :: l, f, h => by
    simp only [linesM, List.length_append]
    rcases List.mem_cons.1 h with rfl | h
    · omega
    · have := line_mem h; omega
theorem me_small {l : List (Tx × Tx)} {t : Tx} (h : msgE l t = 0) : l.length ≤ 30 ∧ ∀ k, k < l.length → (l.getD k ([], [])).1.length ≤ 2000 := by
  unfold msgE at h
  split at h
  · omega
  · split at h
    · split at h
      · omega
      · rename_i h1 _ h3
        refine ⟨by omega, fun k hk => ?_⟩
        have hm : l.getD k ([], []) ∈ l := by rw [show l.getD k ([], []) = l[k]'hk by simp [List.getD, hk]]; exact List.getElem_mem hk
        have h4 := line_mem hm
        have h5 := lineM_len (l.getD k ([], []))
        have h6 := textM_lines l t
        omega
    · omega
set_option maxRecDepth 4000 in
set_option maxHeartbeats 1000000 in
theorem MatchIs_c (T : Tbl) (s p : Tx) (hs : s.length ≤ 2000) : PC Tryd.prog T 85 [.d (.int .i64 1), .d (.str s), .d (.str p)] (.tup [.d (.bool (isM s p)), .d (.int .i64 (if 100 < p.length then 1 else 0))]) := by
  refine ⟨Tryd.call85, PCall.enterS Tryd.func85 rfl Tryd.ntmps85 rfl fun hb => ?_⟩
  simp only [go_sem, Tryd.results85]
  refine AWp.rs fun K1 hK1 => ?_
  try simp only [go_sem, icast]
  (repeat (with_reducible refine And.intro ?_ ?_; (first | omega | (intro _; omega) | decide | (exact nfB) | (intro _; exact nfB) | (intro hg; refine ⟨hg, ?_⟩; omega) | (simp; done) | (simp; omega) | (intro hg; simp at hg; done) | (intro hg; simp at hg ⊢; first | omega | exact hg | grind))))
  refine hK1 _ _ ?_
  try clear hK1 K1
  refine AWp.seq fun K2 hK2 => ?_
  refine AWp.rs fun K3 hK3 => ?_
  try simp only [go_sem, icast]
  (repeat (with_reducible refine And.intro ?_ ?_; (first | omega | (intro _; omega) | decide | (exact nfB) | (intro _; exact nfB) | (intro hg; refine ⟨hg, ?_⟩; omega) | (simp; done) | (simp; omega) | (intro hg; simp at hg; done) | (intro hg; simp at hg ⊢; first | omega | exact hg | grind))))
  refine hK3 _ _ ?_
  try clear hK3 K3
  refine AWp.mask [true, true, true, false, false, false, false, false, false, false, true] rfl ?_
  simp only [go_sem]
  refine AWp.cond _ rfl (fun hc0 => ?_) (fun hc0 => ?_)
  · skip
    exact absurd hc0 (by simp)
  · skip
    try simp only [decide_eq_true_eq, decide_eq_false_iff_not, Bool.not_eq_true', Bool.not_eq_false', Bool.and_eq_true, Bool.or_eq_true, Bool.and_eq_false_iff, Bool.or_eq_false_iff, Int.not_lt, Int.not_le, beq_iff_eq, beq_eq_false_iff_ne, ne_eq, Bool.not_eq_true, Bool.not_eq_false] at hc0
    refine AWp.skip ?_
    refine thenQ_n ?_
    refine hK2 _ _ ?_
    try clear hK2 K2
    refine AWp.seq fun K4 hK4 => ?_
    refine AWp.rs fun K5 hK5 => ?_
    try simp only [go_sem, icast]
    (repeat (with_reducible refine And.intro ?_ ?_; (first | omega | (intro _; omega) | decide | (exact nfB) | (intro _; exact nfB) | (intro hg; refine ⟨hg, ?_⟩; omega) | (simp; done) | (simp; omega) | (intro hg; simp at hg; done) | (intro hg; simp at hg ⊢; first | omega | exact hg | grind))))
    refine hK5 _ _ ?_
    try clear hK5 K5
    refine AWp.mask [true, true, true, false, false, false, false, false, false, false, false, true] rfl ?_
    simp only [go_sem]
    refine AWp.cond _ rfl (fun hc1 => ?_) (fun hc1 => ?_)
    · skip
      try simp only [decide_eq_true_eq, decide_eq_false_iff_not, Bool.not_eq_true', Bool.not_eq_false', Bool.and_eq_true, Bool.or_eq_true, Bool.and_eq_false_iff, Bool.or_eq_false_iff, Int.not_lt, Int.not_le, beq_iff_eq, beq_eq_false_iff_ne, ne_eq, Bool.not_eq_true, Bool.not_eq_false] at hc1
      have hp : 100 < p.length := by omega
      refine AWp.rs fun K6 hK6 => ?_
      try simp only [go_sem, icast]
      (repeat (with_reducible refine And.intro ?_ ?_; (first | omega | (intro _; omega) | decide | (exact nfB) | (intro _; exact nfB) | (intro hg; refine ⟨hg, ?_⟩; omega) | (simp; done) | (simp; omega) | (intro hg; simp at hg; done) | (intro hg; simp at hg ⊢; first | omega | exact hg | grind))))
      refine hK6 _ _ ?_
      try clear hK6 K6
      refine AWp.mask [false, false, false, true, true] rfl ?_
      simp only [go_sem]
      refine AWp.ret ?_
      try simp only [go_sem, icast]
      rw [isM_big hp, if_pos hp]
      try simp [LeA, LeL, LeD]
    · skip
      try simp only [decide_eq_true_eq, decide_eq_false_iff_not, Bool.not_eq_true', Bool.not_eq_false', Bool.and_eq_true, Bool.or_eq_true, Bool.and_eq_false_iff, Bool.or_eq_false_iff, Int.not_lt, Int.not_le, beq_iff_eq, beq_eq_false_iff_ne, ne_eq, Bool.not_eq_true, Bool.not_eq_false] at hc1
      have hp : ¬ 100 < p.length := by omega
      refine AWp.skip ?_
      refine thenQ_n ?_
      refine hK4 _ _ ?_
      try clear hK4 K4
      refine AWp.rs fun K7 hK7 => ?_
      try simp only [go_sem, icast]
      (repeat (with_reducible refine And.intro ?_ ?_; (first | omega | (intro _; omega) | decide | (exact nfB) | (intro _; exact nfB) | (intro hg; refine ⟨hg, ?_⟩; omega) | (simp; done) | (simp; omega) | (intro hg; simp at hg; done) | (intro hg; simp at hg ⊢; first | omega | exact hg | grind))))
      refine DW.pcr rfl rfl rfl rfl (fold_p T s hs) rfl rfl ?_
      try simp only [go_sem, icast]
      (repeat (with_reducible refine And.intro ?_ ?_; (first | omega | (intro _; omega) | decide | (exact nfB) | (intro _; exact nfB) | (intro hg; refine ⟨hg, ?_⟩; omega) | (simp; done) | (simp; omega) | (intro hg; simp at hg; done) | (intro hg; simp at hg ⊢; first | omega | exact hg | grind))))
      refine DW.pcr rfl rfl rfl rfl (fold_p T p (by omega)) rfl rfl ?_
      try simp only [go_sem, icast]
      (repeat (with_reducible refine And.intro ?_ ?_; (first | omega | (intro _; omega) | decide | (exact nfB) | (intro _; exact nfB) | (intro hg; refine ⟨hg, ?_⟩; omega) | (simp; done) | (simp; omega) | (intro hg; simp at hg; done) | (intro hg; simp at hg ⊢; first | omega | exact hg | grind))))
      refine hK7 _ _ ?_
      try clear hK7 K7
      refine AWp.mask [true, false, false, true, true] rfl ?_
      simp only [go_sem]
      refine AWp.seq fun K8 hK8 => ?_
      refine AWp.rs fun K9 hK9 => ?_
      try simp only [go_sem, icast]
      (repeat (with_reducible refine And.intro ?_ ?_; (first | omega | (intro _; omega) | decide | (exact nfB) | (intro _; exact nfB) | (intro hg; refine ⟨hg, ?_⟩; omega) | (simp; done) | (simp; omega) | (intro hg; simp at hg; done) | (intro hg; simp at hg ⊢; first | omega | exact hg | grind))))
      refine hK9 _ _ ?_
      try clear hK9 K9
      refine AWp.block ?_
      refine AWp.rs fun K10 hK10 => ?_
      try simp only [go_sem, icast]
      (repeat (with_reducible refine And.intro ?_ ?_; (first | omega | (intro _; omega) | decide | (exact nfB) | (intro _; exact nfB) | (intro hg; refine ⟨hg, ?_⟩; omega) | (simp; done) | (simp; omega) | (intro hg; simp at hg; done) | (intro hg; simp at hg ⊢; first | omega | exact hg | grind))))
      refine hK10 _ _ ?_
      try clear hK10 K10
      refine AWp.cond _ rfl (fun hc2 => ?_) (fun hc2 => ?_)
      · skip
        try simp only [decide_eq_true_eq, decide_eq_false_iff_not, Bool.not_eq_true', Bool.not_eq_false', Bool.and_eq_true, Bool.or_eq_true, Bool.and_eq_false_iff, Bool.or_eq_false_iff, Int.not_lt, Int.not_le, beq_iff_eq, beq_eq_false_iff_ne, ne_eq, Bool.not_eq_true, Bool.not_eq_false] at hc2
        refine AWp.rs fun K11 hK11 => ?_
        try simp only [go_sem, icast]
        (repeat (with_reducible refine And.intro ?_ ?_; (first | omega | (intro _; omega) | decide | (exact nfB) | (intro _; exact nfB) | (intro hg; refine ⟨hg, ?_⟩; omega) | (simp; done) | (simp; omega) | (intro hg; simp at hg; done) | (intro hg; simp at hg ⊢; first | omega | exact hg | grind))))
        refine hK11 _ _ ?_
        try clear hK11 K11
        refine AWp.mask [false, true, true] rfl ?_
        simp only [go_sem]
        refine AWp.ret ?_
        try simp only [go_sem, icast]
        rw [isM_fit hp, if_neg hp]
        try simp [LeA, LeL, LeD]
      · skip
        exact absurd hc2 (by simp)
set_option maxRecDepth 4000 in
set_option maxHeartbeats 1000000 in
theorem Values_c (T : Tbl) (hL : LibT T) (l : List (Tx × Tx)) (t : Tx) (ok : MsgOk l t) (nm : Tx) : PC Tryd.prog T 44 [.agg [.d (.slc 2 (fldsD l)), .d (.str t)], .d (.str nm)] (.tup [.d (.slc 1 (txsD (if msgE l t = 0 then valsM l nm else []))), .d (.int .i64 (msgE l t))]) := by
  refine ⟨Tryd.call44, PCall.enterS Tryd.func44 rfl Tryd.ntmps44 rfl fun hb => ?_⟩
  simp only [go_sem, Tryd.results44]
  refine AWp.rs fun K1 hK1 => ?_
  try simp only [go_sem, icast, fldsD_len, Nat.zero_add]
  (repeat (with_reducible refine And.intro ?_ ?_; (first | omega | (intro _; omega) | decide | (exact nfB) | (intro _; exact nfB) | (intro hg; refine ⟨hg, ?_⟩; omega) | (simp; done) | (simp; omega) | (intro hg; simp at hg; done) | (intro hg; simp at hg ⊢; first | omega | exact hg | grind))))
  intro b2
  first | intro fb2 | have fb2 := True.intro
  try simp only [freshL] at fb2
  try simp only [go_sem, icast, fldsD_len, Nat.zero_add, fb2]
  (repeat (with_reducible refine And.intro ?_ ?_; (first | omega | (intro _; omega) | decide | (exact nfB) | (intro _; exact nfB) | (intro hg; refine ⟨hg, ?_⟩; omega) | (simp; done) | (simp; omega) | (intro hg; simp at hg; done) | (intro hg; simp at hg ⊢; first | omega | exact hg | grind))))
  refine hK1 _ _ ?_
  try clear hK1 K1
  refine AWp.seq fun K2 hK2 => ?_
  refine AWp.rs fun K3 hK3 => ?_
  try simp only [go_sem, icast, fldsD_len, Nat.zero_add, fb2]
  (repeat (with_reducible refine And.intro ?_ ?_; (first | omega | (intro _; omega) | decide | (exact nfB) | (intro _; exact nfB) | (intro hg; refine ⟨hg, ?_⟩; omega) | (simp; done) | (simp; omega) | (intro hg; simp at hg; done) | (intro hg; simp at hg ⊢; first | omega | exact hg | grind))))
  refine DW.pcr rfl rfl rfl rfl (LCheck_c T hL l t ok) rfl rfl ?_
  try simp only [go_sem, icast, fldsD_len, Nat.zero_add, fb2]
  (repeat (with_reducible refine And.intro ?_ ?_; (first | omega | (intro _; omega) | decide | (exact nfB) | (intro _; exact nfB) | (intro hg; refine ⟨hg, ?_⟩; omega) | (simp; done) | (simp; omega) | (intro hg; simp at hg; done) | (intro hg; simp at hg ⊢; first | omega | exact hg | grind))))
  refine hK3 _ _ ?_
  try clear hK3 K3
  refine AWp.mask [false, true, true, false, false, true] rfl ?_
  simp only [go_sem]
  refine AWp.rs fun K4 hK4 => ?_
  try simp only [go_sem, icast, fldsD_len, Nat.zero_add, fb2]
  (repeat (with_reducible refine And.intro ?_ ?_; (first | omega | (intro _; omega) | decide | (exact nfB) | (intro _; exact nfB) | (intro hg; refine ⟨hg, ?_⟩; omega) | (simp; done) | (simp; omega) | (intro hg; simp at hg; done) | (intro hg; simp at hg ⊢; first | omega | exact hg | grind))))
  refine hK4 _ _ ?_
  try clear hK4 K4
  refine AWp.cond _ rfl (fun hc0 => ?_) (fun hc0 => ?_)
  · skip
    try simp only [decide_eq_true_eq, decide_eq_false_iff_not, Bool.not_eq_true', Bool.not_eq_false', Bool.and_eq_true, Bool.or_eq_true, Bool.and_eq_false_iff, Bool.or_eq_false_iff, Int.not_lt, Int.not_le, beq_iff_eq, beq_eq_false_iff_ne, ne_eq, Bool.not_eq_true, Bool.not_eq_false] at hc0
    refine AWp.rs fun K5 hK5 => ?_
    try simp only [go_sem, icast, fldsD_len, Nat.zero_add, fb2]
    (repeat (with_reducible refine And.intro ?_ ?_; (first | omega | (intro _; omega) | decide | (exact nfB) | (intro _; exact nfB) | (intro hg; refine ⟨hg, ?_⟩; omega) | (simp; done) | (simp; omega) | (intro hg; simp at hg; done) | (intro hg; simp at hg ⊢; first | omega | exact hg | grind))))
    refine hK5 _ _ ?_
    try clear hK5 K5
    refine AWp.mask [false, false, true, true] rfl ?_
    simp only [go_sem]
    refine AWp.ret ?_
    try simp only [go_sem, icast, fldsD_len, Nat.zero_add, fb2]
    rw [if_neg hc0]
    try simp [LeA, LeL, LeD, txsD]
  · skip
    try simp only [decide_eq_true_eq, decide_eq_false_iff_not, Bool.not_eq_true', Bool.not_eq_false', Bool.and_eq_true, Bool.or_eq_true, Bool.and_eq_false_iff, Bool.or_eq_false_iff, Int.not_lt, Int.not_le, beq_iff_eq, beq_eq_false_iff_ne, ne_eq, Bool.not_eq_true, Bool.not_eq_false] at hc0
    obtain ⟨hl30, hsm⟩ := me_small hc0
    refine AWp.skip ?_
    refine thenQ_n ?_
    refine hK2 _ _ ?_
    try clear hK2 K2
    refine AWp.rs fun K6 hK6 => ?_
    try simp only [go_sem, icast, fldsD_len, Nat.zero_add, fb2]
    (repeat (with_reducible refine And.intro ?_ ?_; (first | omega | (intro _; omega) | decide | (exact nfB) | (intro _; exact nfB) | (intro hg; refine ⟨hg, ?_⟩; omega) | (simp; done) | (simp; omega) | (intro hg; simp at hg; done) | (intro hg; simp at hg ⊢; first | omega | exact hg | grind))))
    refine hK6 _ _ ?_
    try clear hK6 K6
    refine AWp.seq fun K7 hK7 => ?_
    refine AWp.rs fun K8 hK8 => ?_
    try simp only [go_sem, icast, fldsD_len, Nat.zero_add, fb2]
    (repeat (with_reducible refine And.intro ?_ ?_; (first | omega | (intro _; omega) | decide | (exact nfB) | (intro _; exact nfB) | (intro hg; refine ⟨hg, ?_⟩; omega) | (simp; done) | (simp; omega) | (intro hg; simp at hg; done) | (intro hg; simp at hg ⊢; first | omega | exact hg | grind))))
    refine hK8 _ _ ?_
    try clear hK8 K8
    refine AWp.mask [true, false, false, true, false, false, false, true, true, true] rfl ?_
    simp only [go_sem]
    refine AWp.block ?_
    refine AWp.ownNilS 7 1 rfl rfl (by decide) fun t9 ft9 => ?_
    try simp only [freshT] at ft9
    simp only [go_sem]
    refine AWp.loopS [true, false, true, true] [false, true, false, false, true] (fun n lc hc => ∃ (k w : Nat), n = l.length - k ∧ EqS lc [(7, .own w 1 (txsD (valsM (l.take k) nm))), (20, .d (.int .i64 (k : Nat)))] ∧ EqS hc (⟨[(b2, ⟨2, 1, [[.d (.slc 2 (fldsD l)), .d (.str t)]]⟩)], [w]⟩) ∧ (k ≤ l.length)) rfl ?_ ?_
    · refine ⟨_, 0, t9, rfl, ?_, ?_, ?_⟩
      · (try simp only [go_sem, icast, fldsD_len, Nat.zero_add, fb2, ft9]) <;> first | exact ⟨rfl⟩ | (constructor; simp [txsD, valsM]; done)
      · (try simp only [go_sem, icast, fldsD_len, Nat.zero_add, fb2, ft9]) <;> first | exact ⟨rfl⟩ | (constructor; simp; done)
      all_goals (first | omega | rfl | (simp; done) | (simp; omega) | assumption)
    · rintro _ _ _ ⟨k, w, rfl, ⟨rfl⟩, ⟨rfl⟩, h1⟩
      simp only [go_sem]
      refine AWp.rs fun K9 hK9 => ?_
      try simp only [go_sem, icast, fldsD_len, Nat.zero_add, fb2, ft9]
      (repeat (with_reducible refine And.intro ?_ ?_; (first | omega | (intro _; omega) | decide | (exact nfB) | (intro _; exact nfB) | (intro hg; refine ⟨hg, ?_⟩; omega) | (simp; done) | (simp; omega) | (intro hg; simp at hg; done) | (intro hg; simp at hg ⊢; first | omega | exact hg | grind))))
      refine hK9 _ _ ?_
      try clear hK9 K9
      refine AWp.seq fun K10 hK10 => ?_
      refine AWp.cond _ rfl (fun hc1 => ?_) (fun hc1 => ?_)
      · skip
        try simp only [decide_eq_true_eq, decide_eq_false_iff_not, Bool.not_eq_true', Bool.not_eq_false', Bool.and_eq_true, Bool.or_eq_true, Bool.and_eq_false_iff, Bool.or_eq_false_iff, Int.not_lt, Int.not_le, beq_iff_eq, beq_eq_false_iff_ne, ne_eq, Bool.not_eq_true, Bool.not_eq_false] at hc1
        have hlt : k < l.length := by omega
        have hvl := vals_len (l.take k) nm
        rw [List.length_take] at hvl
        refine AWp.skip ?_
        refine thenQ_n ?_
        refine hK10 _ _ ?_
        try clear hK10 K10
        refine AWp.seq fun K11 hK11 => ?_
        refine AWp.block ?_
        refine AWp.rs fun K12 hK12 => ?_
        try simp only [go_sem, icast, fldsD_len, Nat.zero_add, fb2, ft9, fldsD_g3 hlt]
        (repeat (with_reducible refine And.intro ?_ ?_; (first | omega | (intro _; omega) | decide | (exact nfB) | (intro _; exact nfB) | (intro hg; refine ⟨hg, ?_⟩; omega) | (simp; done) | (simp; omega) | (intro hg; simp at hg; done) | (intro hg; simp at hg ⊢; first | omega | exact hg | grind))))
        intro b9
        first | intro fb9 | have fb9 := True.intro
        try simp only [freshL] at fb9
        try simp only [go_sem, icast, fldsD_len, Nat.zero_add, fb2, ft9, fldsD_g3 hlt, fb9]
        (repeat (with_reducible refine And.intro ?_ ?_; (first | omega | (intro _; omega) | decide | (exact nfB) | (intro _; exact nfB) | (intro hg; refine ⟨hg, ?_⟩; omega) | (simp; done) | (simp; omega) | (intro hg; simp at hg; done) | (intro hg; simp at hg ⊢; first | omega | exact hg | grind))))
        refine hK12 _ _ ?_
        try clear hK12 K12
        refine AWp.rs fun K13 hK13 => ?_
        try simp only [go_sem, icast, fldsD_len, Nat.zero_add, fb2, ft9, fldsD_g3 hlt, fb9]
        (repeat (with_reducible refine And.intro ?_ ?_; (first | omega | (intro _; omega) | decide | (exact nfB) | (intro _; exact nfB) | (intro hg; refine ⟨hg, ?_⟩; omega) | (simp; done) | (simp; omega) | (intro hg; simp at hg; done) | (intro hg; simp at hg ⊢; first | omega | exact hg | grind))))
        refine DW.pcr rfl rfl rfl rfl (MatchIs_c T (l.getD k ([], [])).1 nm (hsm _ hlt)) rfl rfl ?_
        try simp only [go_sem, icast, fldsD_len, Nat.zero_add, fb2, ft9, fldsD_g3 hlt, fb9]
        (repeat (with_reducible refine And.intro ?_ ?_; (first | omega | (intro _; omega) | decide | (exact nfB) | (intro _; exact nfB) | (intro hg; refine ⟨hg, ?_⟩; omega) | (simp; done) | (simp; omega) | (intro hg; simp at hg; done) | (intro hg; simp at hg ⊢; first | omega | exact hg | grind))))
        refine hK13 _ _ ?_
        try clear hK13 K13
        refine AWp.mask [true, true, true, true, false, true, true, true] rfl ?_
        simp only [go_sem]
        refine AWp.rs fun K14 hK14 => ?_
        try simp only [go_sem, icast, fldsD_len, Nat.zero_add, fb2, ft9, fldsD_g3 hlt, fb9]
        (repeat (with_reducible refine And.intro ?_ ?_; (first | omega | (intro _; omega) | decide | (exact nfB) | (intro _; exact nfB) | (intro hg; refine ⟨hg, ?_⟩; omega) | (simp; done) | (simp; omega) | (intro hg; simp at hg; done) | (intro hg; simp at hg ⊢; first | omega | exact hg | grind))))
        refine hK14 _ _ ?_
        try clear hK14 K14
        refine AWp.cond _ rfl (fun hc2 => ?_) (fun hc2 => ?_)
        · skip
          try simp only [decide_eq_true_eq, decide_eq_false_iff_not, Bool.not_eq_true', Bool.not_eq_false', Bool.and_eq_true, Bool.or_eq_true, Bool.and_eq_false_iff, Bool.or_eq_false_iff, Int.not_lt, Int.not_le, beq_iff_eq, beq_eq_false_iff_ne, ne_eq, Bool.not_eq_true, Bool.not_eq_false] at hc2
          refine AWp.rk fun K15 hK15 => ?_
          try simp only [go_sem, icast, fldsD_len, Nat.zero_add, fb2, ft9, fldsD_g3 hlt, fb9]
          (repeat (with_reducible refine And.intro ?_ ?_; (first | omega | (intro _; omega) | decide | (exact nfB) | (intro _; exact nfB) | (intro hg; refine ⟨hg, ?_⟩; omega) | (simp; done) | (simp; omega) | (intro hg; simp at hg; done) | (intro hg; simp at hg ⊢; first | omega | exact hg | grind))))
          refine DW.app rfl rfl rfl rfl (show slI Tryd.prog 74 = some (9, 1, 16) by simp only [go_sem]) rfl rfl (by simp only [go_sem, icast, fldsD_len, Nat.zero_add, fb2, ft9, fldsD_g3 hlt, fb9]) (by first | exact .inl rfl | exact .inr rfl) (by (try simp only [go_sem, txsD_len]); omega) (by (try simp only [go_sem, txsD_len]); omega) fun t1 ft1 => ?_
          try simp only [freshT] at ft1
          try simp only [go_sem, icast, fldsD_len, Nat.zero_add, fb2, ft9, fldsD_g3 hlt, fb9, ft1]
          (repeat (with_reducible refine And.intro ?_ ?_; (first | omega | (intro _; omega) | decide | (exact nfB) | (intro _; exact nfB) | (intro hg; refine ⟨hg, ?_⟩; omega) | (simp; done) | (simp; omega) | (intro hg; simp at hg; done) | (intro hg; simp at hg ⊢; first | omega | exact hg | grind))))
          refine hK15 _ _ ?_
          try clear hK15 K15
          refine blkQ_n (thenQ_n ?_)
          refine hK11 _ _ ?_
          try clear hK11 K11
          refine AWp.mask [true, true, false, false, true, true, true] rfl ?_
          simp only [go_sem]
          refine AWp.rk fun K16 hK16 => ?_
          try simp only [go_sem, icast, fldsD_len, Nat.zero_add, fb2, ft9, fldsD_g3 hlt, fb9, ft1]
          (repeat (with_reducible refine And.intro ?_ ?_; (first | omega | (intro _; omega) | decide | (exact nfB) | (intro _; exact nfB) | (intro hg; refine ⟨hg, ?_⟩; omega) | (simp; done) | (simp; omega) | (intro hg; simp at hg; done) | (intro hg; simp at hg ⊢; first | omega | exact hg | grind))))
          refine hK16 _ _ ?_
          try clear hK16 K16
          refine thenQ_n ?_
          refine EndS.mk [true, false, true, true] [false, true, false, false, true] [b9] [] [b2] [t1] rfl ?_ ?_
          · (try simp only [go_sem, icast, fldsD_len, Nat.zero_add, fb2, ft9, fldsD_g3 hlt, fb9, ft1]) <;> try rfl
          refine .e ⟨_, ?_, k + 1, t1, rfl, ?_, ?_, ?_⟩
          · first | omega | (simp; omega) | (grind)
          · (try simp only [go_sem, icast, fldsD_len, Nat.zero_add, fb2, ft9, fldsD_g3 hlt, fb9, ft1]) <;> first | exact ⟨rfl⟩ | (constructor; rw [vals_yes hlt hc2]; simp [txsD]; done)
          · (try simp only [go_sem, icast, fldsD_len, Nat.zero_add, fb2, ft9, fldsD_g3 hlt, fb9, ft1]) <;> first | exact ⟨rfl⟩ | (constructor; simp; done)
          all_goals (first | omega | assumption | grind)
        · skip
          try simp only [decide_eq_true_eq, decide_eq_false_iff_not, Bool.not_eq_true', Bool.not_eq_false', Bool.and_eq_true, Bool.or_eq_true, Bool.and_eq_false_iff, Bool.or_eq_false_iff, Int.not_lt, Int.not_le, beq_iff_eq, beq_eq_false_iff_ne, ne_eq, Bool.not_eq_true, Bool.not_eq_false] at hc2
          refine AWp.skip ?_
          refine blkQ_n (thenQ_n ?_)
          refine hK11 _ _ ?_
          try clear hK11 K11
          refine AWp.rk fun K17 hK17 => ?_
          try simp only [go_sem, icast, fldsD_len, Nat.zero_add, fb2, ft9, fldsD_g3 hlt, fb9]
          (repeat (with_reducible refine And.intro ?_ ?_; (first | omega | (intro _; omega) | decide | (exact nfB) | (intro _; exact nfB) | (intro hg; refine ⟨hg, ?_⟩; omega) | (simp; done) | (simp; omega) | (intro hg; simp at hg; done) | (intro hg; simp at hg ⊢; first | omega | exact hg | grind))))
          refine hK17 _ _ ?_
          try clear hK17 K17
          refine thenQ_n ?_
          refine EndS.mk [true, false, false, false, true, true] [false, true, false, false, false, false, true] [b9] [] [b2] [w] rfl ?_ ?_
          · (try simp only [go_sem, icast, fldsD_len, Nat.zero_add, fb2, ft9, fldsD_g3 hlt, fb9]) <;> try rfl
          refine .e ⟨_, ?_, k + 1, w, rfl, ?_, ?_, ?_⟩
          · first | omega | (simp; omega) | (grind)
          · (try simp only [go_sem, icast, fldsD_len, Nat.zero_add, fb2, ft9, fldsD_g3 hlt, fb9]) <;> first | exact ⟨rfl⟩ | (constructor; rw [vals_no hlt hc2])
          · (try simp only [go_sem, icast, fldsD_len, Nat.zero_add, fb2, ft9, fldsD_g3 hlt, fb9]) <;> first | exact ⟨rfl⟩ | (constructor; simp; done)
          all_goals (first | omega | assumption | grind)
      · skip
        try simp only [decide_eq_true_eq, decide_eq_false_iff_not, Bool.not_eq_true', Bool.not_eq_false', Bool.and_eq_true, Bool.or_eq_true, Bool.and_eq_false_iff, Bool.or_eq_false_iff, Int.not_lt, Int.not_le, beq_iff_eq, beq_eq_false_iff_ne, ne_eq, Bool.not_eq_true, Bool.not_eq_false] at hc1
        have hk : k = l.length := by omega
        subst hk
        rw [List.take_length]
        refine AWp.exit ?_
        refine thenQ_e (thenQ_e (blkQ_e (thenQ_n ?_)))
        refine hK7 _ _ ?_
        try clear hK7 K7
        refine AWp.mask [false, true] rfl ?_
        simp only [go_sem]
        refine AWp.rs fun K18 hK18 => ?_
        try simp only [go_sem, icast, fldsD_len, Nat.zero_add, fb2, ft9]
        (repeat (with_reducible refine And.intro ?_ ?_; (first | omega | (intro _; omega) | decide | (exact nfB) | (intro _; exact nfB) | (intro hg; refine ⟨hg, ?_⟩; omega) | (simp; done) | (simp; omega) | (intro hg; simp at hg; done) | (intro hg; simp at hg ⊢; first | omega | exact hg | grind))))
        refine hK18 _ _ ?_
        try clear hK18 K18
        refine AWp.ret ?_
        try simp only [go_sem, icast, fldsD_len, Nat.zero_add, fb2, ft9]
        rw [if_pos hc0, hc0]; simp [LeA, LeL, LeD]
set_option maxRecDepth 4000 in
set_option maxHeartbeats 1000000 in
theorem valuesOf_c (T : Tbl) (l : List (Tx × Tx)) (t : Tx) (ok : MsgOk l t) (nm : Tx) (h0 : msgE l t = 0) (hn : nm.length ≤ 100) : PC Tryd.prog T 86 [.agg [.d (.slc 2 (fldsD l)), .d (.str t)], .d (.str nm)] (.d (.slc 1 (txsD (valsM l nm)))) := by
  refine ⟨Tryd.call86, PCall.enterS Tryd.func86 rfl Tryd.ntmps86 rfl fun hb => ?_⟩
  obtain ⟨hl30, hsm⟩ := me_small h0
  simp only [go_sem, Tryd.results86]
  refine AWp.rs fun K1 hK1 => ?_
  try simp only [go_sem, icast, fldsD_len, Nat.zero_add]
  (repeat (with_reducible refine And.intro ?_ ?_; (first | omega | (intro _; omega) | decide | (exact nfB) | (intro _; exact nfB) | (intro hg; refine ⟨hg, ?_⟩; omega) | (simp; done) | (simp; omega) | (intro hg; simp at hg; done) | (intro hg; simp at hg ⊢; first | omega | exact hg | grind))))
  intro b2
  first | intro fb2 | have fb2 := True.intro
  try simp only [freshL] at fb2
  try simp only [go_sem, icast, fldsD_len, Nat.zero_add, fb2]
  (repeat (with_reducible refine And.intro ?_ ?_; (first | omega | (intro _; omega) | decide | (exact nfB) | (intro _; exact nfB) | (intro hg; refine ⟨hg, ?_⟩; omega) | (simp; done) | (simp; omega) | (intro hg; simp at hg; done) | (intro hg; simp at hg ⊢; first | omega | exact hg | grind))))
  refine hK1 _ _ ?_
  try clear hK1 K1
  refine AWp.rs fun K2 hK2 => ?_
  try simp only [go_sem, icast, fldsD_len, Nat.zero_add, fb2]
  (repeat (with_reducible refine And.intro ?_ ?_; (first | omega | (intro _; omega) | decide | (exact nfB) | (intro _; exact nfB) | (intro hg; refine ⟨hg, ?_⟩; omega) | (simp; done) | (simp; omega) | (intro hg; simp at hg; done) | (intro hg; simp at hg ⊢; first | omega | exact hg | grind))))
  refine hK2 _ _ ?_
  try clear hK2 K2
  refine AWp.seq fun K3 hK3 => ?_
  refine AWp.rs fun K4 hK4 => ?_
  try simp only [go_sem, icast, fldsD_len, Nat.zero_add, fb2]
  (repeat (with_reducible refine And.intro ?_ ?_; (first | omega | (intro _; omega) | decide | (exact nfB) | (intro _; exact nfB) | (intro hg; refine ⟨hg, ?_⟩; omega) | (simp; done) | (simp; omega) | (intro hg; simp at hg; done) | (intro hg; simp at hg ⊢; first | omega | exact hg | grind))))
  refine hK4 _ _ ?_
  try clear hK4 K4
  refine AWp.block ?_
  refine AWp.mask [false, true, true, false, true, true] rfl ?_
  simp only [go_sem]
  refine AWp.ownNilS 5 1 rfl rfl (by decide) fun t9 ft9 => ?_
  try simp only [freshT] at ft9
  simp only [go_sem]
  refine AWp.loopS [true, true] [false, false, true, true] (fun n lc hc => ∃ (k w : Nat), n = l.length - k ∧ EqS lc [(5, .own w 1 (txsD (valsM (l.take k) nm))), (6, .d (.int .i64 (k : Nat)))] ∧ EqS hc (⟨[(b2, ⟨2, 1, [[.d (.slc 2 (fldsD l)), .d (.str t)]]⟩)], [w]⟩) ∧ (k ≤ l.length)) rfl ?_ ?_
  · refine ⟨_, 0, t9, rfl, ?_, ?_, ?_⟩
    · (try simp only [go_sem, icast, fldsD_len, Nat.zero_add, fb2, ft9]) <;> first | exact ⟨rfl⟩ | (constructor; simp [txsD, valsM]; done)
    · (try simp only [go_sem, icast, fldsD_len, Nat.zero_add, fb2, ft9]) <;> first | exact ⟨rfl⟩ | (constructor; simp; done)
    all_goals (first | omega | rfl | (simp; done) | (simp; omega) | assumption)
  · rintro _ _ _ ⟨k, w, rfl, ⟨rfl⟩, ⟨rfl⟩, h1⟩
    simp only [go_sem]
    refine AWp.seq fun K5 hK5 => ?_
    refine AWp.rs fun K6 hK6 => ?_
    try simp only [go_sem, icast, fldsD_len, Nat.zero_add, fb2, ft9]
    (repeat (with_reducible refine And.intro ?_ ?_; (first | omega | (intro _; omega) | decide | (exact nfB) | (intro _; exact nfB) | (intro hg; refine ⟨hg, ?_⟩; omega) | (simp; done) | (simp; omega) | (intro hg; simp at hg; done) | (intro hg; simp at hg ⊢; first | omega | exact hg | grind))))
    refine hK6 _ _ ?_
    try clear hK6 K6
    refine AWp.mask [true, true, true, true, false, false, false, false, true] rfl ?_
    simp only [go_sem]
    refine AWp.cond _ rfl (fun hc0 => ?_) (fun hc0 => ?_)
    · skip
      try simp only [decide_eq_true_eq, decide_eq_false_iff_not, Bool.not_eq_true', Bool.not_eq_false', Bool.and_eq_true, Bool.or_eq_true, Bool.and_eq_false_iff, Bool.or_eq_false_iff, Int.not_lt, Int.not_le, beq_iff_eq, beq_eq_false_iff_ne, ne_eq, Bool.not_eq_true, Bool.not_eq_false] at hc0
      have hlt : k < l.length := by omega
      have hvl := vals_len (l.take k) nm
      rw [List.length_take] at hvl
      refine AWp.skip ?_
      refine thenQ_n ?_
      refine hK5 _ _ ?_
      try clear hK5 K5
      refine AWp.seq fun K7 hK7 => ?_
      refine AWp.block ?_
      refine AWp.rs fun K8 hK8 => ?_
      try simp only [go_sem, icast, fldsD_len, Nat.zero_add, fb2, ft9, fldsD_g3 hlt]
      (repeat (with_reducible refine And.intro ?_ ?_; (first | omega | (intro _; omega) | decide | (exact nfB) | (intro _; exact nfB) | (intro hg; refine ⟨hg, ?_⟩; omega) | (simp; done) | (simp; omega) | (intro hg; simp at hg; done) | (intro hg; simp at hg ⊢; first | omega | exact hg | grind))))
      refine DW.pcr rfl rfl rfl rfl (lower_p T (l.getD k ([], [])).1 (hsm _ hlt)) rfl rfl ?_
      try simp only [go_sem, icast, fldsD_len, Nat.zero_add, fb2, ft9, fldsD_g3 hlt]
      (repeat (with_reducible refine And.intro ?_ ?_; (first | omega | (intro _; omega) | decide | (exact nfB) | (intro _; exact nfB) | (intro hg; refine ⟨hg, ?_⟩; omega) | (simp; done) | (simp; omega) | (intro hg; simp at hg; done) | (intro hg; simp at hg ⊢; first | omega | exact hg | grind))))
      refine DW.pcr rfl rfl rfl rfl (lower_p T nm (by omega)) rfl rfl ?_
      try simp only [go_sem, icast, fldsD_len, Nat.zero_add, fb2, ft9, fldsD_g3 hlt]
      (repeat (with_reducible refine And.intro ?_ ?_; (first | omega | (intro _; omega) | decide | (exact nfB) | (intro _; exact nfB) | (intro hg; refine ⟨hg, ?_⟩; omega) | (simp; done) | (simp; omega) | (intro hg; simp at hg; done) | (intro hg; simp at hg ⊢; first | omega | exact hg | grind))))
      refine hK8 _ _ ?_
      try clear hK8 K8
      refine AWp.mask [true, true, true, true, false, false, false, false, false, false, false, false, false, false, true] rfl ?_
      simp only [go_sem]
      refine AWp.cond _ rfl (fun hc1 => ?_) (fun hc1 => ?_)
      · skip
        try simp only [decide_eq_true_eq, decide_eq_false_iff_not, Bool.not_eq_true', Bool.not_eq_false', Bool.and_eq_true, Bool.or_eq_true, Bool.and_eq_false_iff, Bool.or_eq_false_iff, Int.not_lt, Int.not_le, beq_iff_eq, beq_eq_false_iff_ne, ne_eq, Bool.not_eq_true, Bool.not_eq_false] at hc1
        have hm : isM (l.getD k ([], [])).1 nm = true := by rw [isM_fit (by omega)]; exact decide_eq_true hc1
        refine AWp.rk fun K9 hK9 => ?_
        try simp only [go_sem, icast, fldsD_len, Nat.zero_add, fb2, ft9, fldsD_g3 hlt]
        (repeat (with_reducible refine And.intro ?_ ?_; (first | omega | (intro _; omega) | decide | (exact nfB) | (intro _; exact nfB) | (intro hg; refine ⟨hg, ?_⟩; omega) | (simp; done) | (simp; omega) | (intro hg; simp at hg; done) | (intro hg; simp at hg ⊢; first | omega | exact hg | grind))))
        refine DW.app rfl rfl rfl rfl (show slI Tryd.prog 74 = some (9, 1, 16) by simp only [go_sem]) rfl rfl (by simp only [go_sem, icast, fldsD_len, Nat.zero_add, fb2, ft9, fldsD_g3 hlt]) (by first | exact .inl rfl | exact .inr rfl) (by (try simp only [go_sem, txsD_len]); omega) (by (try simp only [go_sem, txsD_len]); omega) fun t1 ft1 => ?_
        try simp only [freshT] at ft1
        try simp only [go_sem, icast, fldsD_len, Nat.zero_add, fb2, ft9, fldsD_g3 hlt, ft1]
        (repeat (with_reducible refine And.intro ?_ ?_; (first | omega | (intro _; omega) | decide | (exact nfB) | (intro _; exact nfB) | (intro hg; refine ⟨hg, ?_⟩; omega) | (simp; done) | (simp; omega) | (intro hg; simp at hg; done) | (intro hg; simp at hg ⊢; first | omega | exact hg | grind))))
        refine hK9 _ _ ?_
        try clear hK9 K9
        refine blkQ_n (thenQ_n ?_)
        refine hK7 _ _ ?_
        try clear hK7 K7
        refine AWp.mask [true, true, true, true] rfl ?_
        simp only [go_sem]
        refine AWp.rk fun K10 hK10 => ?_
        try simp only [go_sem, icast, fldsD_len, Nat.zero_add, fb2, ft9, fldsD_g3 hlt, ft1]
        (repeat (with_reducible refine And.intro ?_ ?_; (first | omega | (intro _; omega) | decide | (exact nfB) | (intro _; exact nfB) | (intro hg; refine ⟨hg, ?_⟩; omega) | (simp; done) | (simp; omega) | (intro hg; simp at hg; done) | (intro hg; simp at hg ⊢; first | omega | exact hg | grind))))
        refine hK10 _ _ ?_
        try clear hK10 K10
        refine thenQ_n ?_
        refine EndS.mk [true, true] [false, false, true, true] [] [] [b2] [t1] rfl ?_ ?_
        · (try simp only [go_sem, icast, fldsD_len, Nat.zero_add, fb2, ft9, fldsD_g3 hlt, ft1]) <;> try rfl
        refine .e ⟨_, ?_, k + 1, t1, rfl, ?_, ?_, ?_⟩
        · first | omega | (simp; omega) | (grind)
        · (try simp only [go_sem, icast, fldsD_len, Nat.zero_add, fb2, ft9, fldsD_g3 hlt, ft1]) <;> first | exact ⟨rfl⟩ | (constructor; rw [vals_yes hlt hm]; simp [txsD]; done)
        · (try simp only [go_sem, icast, fldsD_len, Nat.zero_add, fb2, ft9, fldsD_g3 hlt, ft1]) <;> first | exact ⟨rfl⟩ | (constructor; simp; done)
        all_goals (first | omega | assumption | grind)
      · skip
        try simp only [decide_eq_true_eq, decide_eq_false_iff_not, Bool.not_eq_true', Bool.not_eq_false', Bool.and_eq_true, Bool.or_eq_true, Bool.and_eq_false_iff, Bool.or_eq_false_iff, Int.not_lt, Int.not_le, beq_iff_eq, beq_eq_false_iff_ne, ne_eq, Bool.not_eq_true, Bool.not_eq_false] at hc1
        have hm : isM (l.getD k ([], [])).1 nm = false := by rw [isM_fit (by omega)]; exact decide_eq_false hc1
        refine AWp.skip ?_
        refine blkQ_n (thenQ_n ?_)
        refine hK7 _ _ ?_
        try clear hK7 K7
        refine AWp.rk fun K11 hK11 => ?_
        try simp only [go_sem, icast, fldsD_len, Nat.zero_add, fb2, ft9, fldsD_g3 hlt]
        (repeat (with_reducible refine And.intro ?_ ?_; (first | omega | (intro _; omega) | decide | (exact nfB) | (intro _; exact nfB) | (intro hg; refine ⟨hg, ?_⟩; omega) | (simp; done) | (simp; omega) | (intro hg; simp at hg; done) | (intro hg; simp at hg ⊢; first | omega | exact hg | grind))))
        refine hK11 _ _ ?_
        try clear hK11 K11
        refine thenQ_n ?_
        refine EndS.mk [true, true] [false, false, true, true] [] [] [b2] [w] rfl ?_ ?_
        · (try simp only [go_sem, icast, fldsD_len, Nat.zero_add, fb2, ft9, fldsD_g3 hlt]) <;> try rfl
        refine .e ⟨_, ?_, k + 1, w, rfl, ?_, ?_, ?_⟩
        · first | omega | (simp; omega) | (grind)
        · (try simp only [go_sem, icast, fldsD_len, Nat.zero_add, fb2, ft9, fldsD_g3 hlt]) <;> first | exact ⟨rfl⟩ | (constructor; rw [vals_no hlt hm])
        · (try simp only [go_sem, icast, fldsD_len, Nat.zero_add, fb2, ft9, fldsD_g3 hlt]) <;> first | exact ⟨rfl⟩ | (constructor; simp; done)
        all_goals (first | omega | assumption | grind)
    · skip
      try simp only [decide_eq_true_eq, decide_eq_false_iff_not, Bool.not_eq_true', Bool.not_eq_false', Bool.and_eq_true, Bool.or_eq_true, Bool.and_eq_false_iff, Bool.or_eq_false_iff, Int.not_lt, Int.not_le, beq_iff_eq, beq_eq_false_iff_ne, ne_eq, Bool.not_eq_true, Bool.not_eq_false] at hc0
      have hk : k = l.length := by omega
      subst hk
      rw [List.take_length]
      refine AWp.exit ?_
      refine thenQ_e (thenQ_e (blkQ_e (thenQ_n ?_)))
      refine hK3 _ _ ?_
      try clear hK3 K3
      refine AWp.mask [false, false, true] rfl ?_
      simp only [go_sem]
      refine AWp.rs fun K12 hK12 => ?_
      try simp only [go_sem, icast, fldsD_len, Nat.zero_add, fb2, ft9]
      (repeat (with_reducible refine And.intro ?_ ?_; (first | omega | (intro _; omega) | decide | (exact nfB) | (intro _; exact nfB) | (intro hg; refine ⟨hg, ?_⟩; omega) | (simp; done) | (simp; omega) | (intro hg; simp at hg; done) | (intro hg; simp at hg ⊢; first | omega | exact hg | grind))))
      refine hK12 _ _ ?_
      try clear hK12 K12
      refine AWp.ret ?_
      try simp only [go_sem, icast, fldsD_len, Nat.zero_add, fb2, ft9]
      try simp [LeA, LeL, LeD]
set_option maxRecDepth 4000 in
set_option maxHeartbeats 1000000 in
theorem ValuesOf_c (T : Tbl) (l : List (Tx × Tx)) (t : Tx) (ok : MsgOk l t) (nm : Tx) : PC Tryd.prog T 45 [.agg [.d (.slc 2 (fldsD l)), .d (.str t)], .d (.str nm)] (.tup [.d (.slc 1 (txsD (if msgE l t = 0 then valsM l nm else []))), .d (.int .i64 (msgE l t))]) := by
  refine ⟨Tryd.call45, PCall.enterS Tryd.func45 rfl Tryd.ntmps45 rfl fun hb => ?_⟩
  simp only [go_sem, Tryd.results45]
  refine AWp.rs fun K1 hK1 => ?_
  try simp only [go_sem, icast]
  (repeat (with_reducible refine And.intro ?_ ?_; (first | omega | (intro _; omega) | decide | (exact nfB) | (intro _; exact nfB) | (intro hg; refine ⟨hg, ?_⟩; omega) | (simp; done) | (simp; omega) | (intro hg; simp at hg; done) | (intro hg; simp at hg ⊢; first | omega | exact hg | grind))))
  intro b2
  first | intro fb2 | have fb2 := True.intro
  try simp only [freshL] at fb2
  try simp only [go_sem, icast, fb2]
  (repeat (with_reducible refine And.intro ?_ ?_; (first | omega | (intro _; omega) | decide | (exact nfB) | (intro _; exact nfB) | (intro hg; refine ⟨hg, ?_⟩; omega) | (simp; done) | (simp; omega) | (intro hg; simp at hg; done) | (intro hg; simp at hg ⊢; first | omega | exact hg | grind))))
  refine hK1 _ _ ?_
  try clear hK1 K1
  refine AWp.rs fun K2 hK2 => ?_
  try simp only [go_sem, icast, fb2]
  (repeat (with_reducible refine And.intro ?_ ?_; (first | omega | (intro _; omega) | decide | (exact nfB) | (intro _; exact nfB) | (intro hg; refine ⟨hg, ?_⟩; omega) | (simp; done) | (simp; omega) | (intro hg; simp at hg; done) | (intro hg; simp at hg ⊢; first | omega | exact hg | grind))))
  refine DW.pcr rfl rfl rfl rfl (MessageFault_c T l t ok) rfl rfl ?_
  try simp only [go_sem, icast, fb2]
  (repeat (with_reducible refine And.intro ?_ ?_; (first | omega | (intro _; omega) | decide | (exact nfB) | (intro _; exact nfB) | (intro hg; refine ⟨hg, ?_⟩; omega) | (simp; done) | (simp; omega) | (intro hg; simp at hg; done) | (intro hg; simp at hg ⊢; first | omega | exact hg | grind))))
  refine hK2 _ _ ?_
  try clear hK2 K2
  refine AWp.mask [false, true, true, false, false, true] rfl ?_
  simp only [go_sem]
  refine AWp.seq fun K3 hK3 => ?_
  refine AWp.rs fun K4 hK4 => ?_
  try simp only [go_sem, icast, fb2]
  (repeat (with_reducible refine And.intro ?_ ?_; (first | omega | (intro _; omega) | decide | (exact nfB) | (intro _; exact nfB) | (intro hg; refine ⟨hg, ?_⟩; omega) | (simp; done) | (simp; omega) | (intro hg; simp at hg; done) | (intro hg; simp at hg ⊢; first | omega | exact hg | grind))))
  refine hK4 _ _ ?_
  try clear hK4 K4
  refine AWp.mask [true, true, true, false, false, false, false, false, false, true] rfl ?_
  simp only [go_sem]
  refine AWp.cond _ rfl (fun hc0 => ?_) (fun hc0 => ?_)
  · skip
    try simp only [decide_eq_true_eq, decide_eq_false_iff_not, Bool.not_eq_true', Bool.not_eq_false', Bool.and_eq_true, Bool.or_eq_true, Bool.and_eq_false_iff, Bool.or_eq_false_iff, Int.not_lt, Int.not_le, beq_iff_eq, beq_eq_false_iff_ne, ne_eq, Bool.not_eq_true, Bool.not_eq_false] at hc0
    have hb0 := hc0.1
    refine AWp.rs fun K5 hK5 => ?_
    try simp only [go_sem, icast, fb2]
    (repeat (with_reducible refine And.intro ?_ ?_; (first | omega | (intro _; omega) | decide | (exact nfB) | (intro _; exact nfB) | (intro hg; refine ⟨hg, ?_⟩; omega) | (simp; done) | (simp; omega) | (intro hg; simp at hg; done) | (intro hg; simp at hg ⊢; first | omega | exact hg | grind))))
    refine hK5 _ _ ?_
    try clear hK5 K5
    refine AWp.mask [false, false, true, true] rfl ?_
    simp only [go_sem]
    refine AWp.ret ?_
    try simp only [go_sem, icast, fb2]
    rw [if_pos hc0.1, hc0.1, vals_none (by omega)]
    try simp [LeA, LeL, LeD, txsD]
  · skip
    try simp only [decide_eq_true_eq, decide_eq_false_iff_not, Bool.not_eq_true', Bool.not_eq_false', Bool.and_eq_true, Bool.or_eq_true, Bool.and_eq_false_iff, Bool.or_eq_false_iff, Int.not_lt, Int.not_le, beq_iff_eq, beq_eq_false_iff_ne, ne_eq, Bool.not_eq_true, Bool.not_eq_false] at hc0
    refine AWp.skip ?_
    refine thenQ_n ?_
    refine hK3 _ _ ?_
    try clear hK3 K3
    refine AWp.seq fun K6 hK6 => ?_
    refine AWp.rs fun K7 hK7 => ?_
    try simp only [go_sem, icast, fb2]
    (repeat (with_reducible refine And.intro ?_ ?_; (first | omega | (intro _; omega) | decide | (exact nfB) | (intro _; exact nfB) | (intro hg; refine ⟨hg, ?_⟩; omega) | (simp; done) | (simp; omega) | (intro hg; simp at hg; done) | (intro hg; simp at hg ⊢; first | omega | exact hg | grind))))
    refine hK7 _ _ ?_
    try clear hK7 K7
    refine AWp.cond _ rfl (fun hc1 => ?_) (fun hc1 => ?_)
    · skip
      try simp only [decide_eq_true_eq, decide_eq_false_iff_not, Bool.not_eq_true', Bool.not_eq_false', Bool.and_eq_true, Bool.or_eq_true, Bool.and_eq_false_iff, Bool.or_eq_false_iff, Int.not_lt, Int.not_le, beq_iff_eq, beq_eq_false_iff_ne, ne_eq, Bool.not_eq_true, Bool.not_eq_false] at hc1
      refine AWp.rs fun K8 hK8 => ?_
      try simp only [go_sem, icast, fb2]
      (repeat (with_reducible refine And.intro ?_ ?_; (first | omega | (intro _; omega) | decide | (exact nfB) | (intro _; exact nfB) | (intro hg; refine ⟨hg, ?_⟩; omega) | (simp; done) | (simp; omega) | (intro hg; simp at hg; done) | (intro hg; simp at hg ⊢; first | omega | exact hg | grind))))
      refine hK8 _ _ ?_
      try clear hK8 K8
      refine AWp.mask [false, false, true, true] rfl ?_
      simp only [go_sem]
      refine AWp.ret ?_
      try simp only [go_sem, icast, fb2]
      rw [if_neg hc1]
      try simp [LeA, LeL, LeD, txsD]
    · skip
      try simp only [decide_eq_true_eq, decide_eq_false_iff_not, Bool.not_eq_true', Bool.not_eq_false', Bool.and_eq_true, Bool.or_eq_true, Bool.and_eq_false_iff, Bool.or_eq_false_iff, Int.not_lt, Int.not_le, beq_iff_eq, beq_eq_false_iff_ne, ne_eq, Bool.not_eq_true, Bool.not_eq_false] at hc1
      refine AWp.skip ?_
      refine thenQ_n ?_
      refine hK6 _ _ ?_
      try clear hK6 K6
      refine AWp.mask [true, true] rfl ?_
      simp only [go_sem]
      refine AWp.rs fun K9 hK9 => ?_
      try simp only [go_sem, icast, fb2]
      (repeat (with_reducible refine And.intro ?_ ?_; (first | omega | (intro _; omega) | decide | (exact nfB) | (intro _; exact nfB) | (intro hg; refine ⟨hg, ?_⟩; omega) | (simp; done) | (simp; omega) | (intro hg; simp at hg; done) | (intro hg; simp at hg ⊢; first | omega | exact hg | grind))))
      refine DW.pcr rfl rfl rfl rfl (valuesOf_c T l t ok nm hc1 (hc0.elim (fun h => absurd hc1 h) (fun h => by omega))) rfl rfl ?_
      try simp only [go_sem, icast, fb2]
      (repeat (with_reducible refine And.intro ?_ ?_; (first | omega | (intro _; omega) | decide | (exact nfB) | (intro _; exact nfB) | (intro hg; refine ⟨hg, ?_⟩; omega) | (simp; done) | (simp; omega) | (intro hg; simp at hg; done) | (intro hg; simp at hg ⊢; first | omega | exact hg | grind))))
      refine hK9 _ _ ?_
      try clear hK9 K9
      refine AWp.mask [false, false, true, true] rfl ?_
      simp only [go_sem]
      refine AWp.ret ?_
      try simp only [go_sem, icast, fb2]
      rw [if_pos hc1, hc1]
      try simp [LeA, LeL, LeD]
set_option maxRecDepth 4000 in
set_option maxHeartbeats 1000000 in
theorem sameTx_c (T : Tbl) (l : List Tx) (hl : l.length ≤ 10000000000000) : PC Tryd.prog T 46 [.d (.slc 1 (txsD l)), .d (.slc 1 (txsD l))] (.d (.bool true)) := by
  refine ⟨Tryd.call46, PCall.enterS Tryd.func46 rfl Tryd.ntmps46 rfl fun hb => ?_⟩
  simp only [go_sem, Tryd.results46]
  refine AWp.rs fun K1 hK1 => ?_
  try simp only [go_sem, icast, txsD_len]
  (repeat (with_reducible refine And.intro ?_ ?_; (first | omega | (intro _; omega) | decide | (exact nfB) | (intro _; exact nfB) | (intro hg; refine ⟨hg, ?_⟩; omega) | (simp; done) | (simp; omega) | (intro hg; simp at hg; done) | (intro hg; simp at hg ⊢; first | omega | exact hg | grind))))
  refine hK1 _ _ ?_
  try clear hK1 K1
  refine AWp.seq fun K2 hK2 => ?_
  refine AWp.rs fun K3 hK3 => ?_
  try simp only [go_sem, icast, txsD_len]
  (repeat (with_reducible refine And.intro ?_ ?_; (first | omega | (intro _; omega) | decide | (exact nfB) | (intro _; exact nfB) | (intro hg; refine ⟨hg, ?_⟩; omega) | (simp; done) | (simp; omega) | (intro hg; simp at hg; done) | (intro hg; simp at hg ⊢; first | omega | exact hg | grind))))
  refine hK3 _ _ ?_
  try clear hK3 K3
  refine AWp.mask [true, true, false, false, false, false, false, true] rfl ?_
  simp only [go_sem]
  refine AWp.cond _ rfl (fun hc0 => ?_) (fun hc0 => ?_)
  · skip
    exact absurd hc0 (by simp)
  · skip
    try simp only [decide_eq_true_eq, decide_eq_false_iff_not, Bool.not_eq_true', Bool.not_eq_false', Bool.and_eq_true, Bool.or_eq_true, Bool.and_eq_false_iff, Bool.or_eq_false_iff, Int.not_lt, Int.not_le, beq_iff_eq, beq_eq_false_iff_ne, ne_eq, Bool.not_eq_true, Bool.not_eq_false] at hc0
    refine AWp.skip ?_
    refine thenQ_n ?_
    refine hK2 _ _ ?_
    try clear hK2 K2
    refine AWp.seq fun K4 hK4 => ?_
    refine AWp.rs fun K5 hK5 => ?_
    try simp only [go_sem, icast, txsD_len]
    (repeat (with_reducible refine And.intro ?_ ?_; (first | omega | (intro _; omega) | decide | (exact nfB) | (intro _; exact nfB) | (intro hg; refine ⟨hg, ?_⟩; omega) | (simp; done) | (simp; omega) | (intro hg; simp at hg; done) | (intro hg; simp at hg ⊢; first | omega | exact hg | grind))))
    refine hK5 _ _ ?_
    try clear hK5 K5
    refine AWp.block ?_
    refine AWp.mask [true, true, true] rfl ?_
    simp only [go_sem]
    refine AWp.loopS [true, true] [false, false, true] (fun n lc hc => ∃ (k : Nat), n = l.length - k ∧ EqS lc [(5, .d (.int .i64 k))] ∧ EqS hc (⟨[], []⟩) ∧ (k ≤ l.length)) rfl ?_ ?_
    · refine ⟨_, 0, rfl, ?_, ?_, ?_⟩
      · (try simp only [go_sem, icast, txsD_len]) <;> first | exact ⟨rfl⟩ | (constructor; simp; done)
      · (try simp only [go_sem, icast, txsD_len]) <;> first | exact ⟨rfl⟩ | (constructor; simp; done)
      all_goals (first | omega | rfl | (simp; done) | (simp; omega) | assumption)
    · rintro _ _ _ ⟨k, rfl, ⟨rfl⟩, ⟨rfl⟩, h1⟩
      simp only [go_sem]
      refine AWp.seq fun K6 hK6 => ?_
      refine AWp.rs fun K7 hK7 => ?_
      try simp only [go_sem, icast, txsD_len]
      (repeat (with_reducible refine And.intro ?_ ?_; (first | omega | (intro _; omega) | decide | (exact nfB) | (intro _; exact nfB) | (intro hg; refine ⟨hg, ?_⟩; omega) | (simp; done) | (simp; omega) | (intro hg; simp at hg; done) | (intro hg; simp at hg ⊢; first | omega | exact hg | grind))))
      refine hK7 _ _ ?_
      try clear hK7 K7
      refine AWp.cond _ rfl (fun hc1 => ?_) (fun hc1 => ?_)
      · skip
        try simp only [decide_eq_true_eq, decide_eq_false_iff_not, Bool.not_eq_true', Bool.not_eq_false', Bool.and_eq_true, Bool.or_eq_true, Bool.and_eq_false_iff, Bool.or_eq_false_iff, Int.not_lt, Int.not_le, beq_iff_eq, beq_eq_false_iff_ne, ne_eq, Bool.not_eq_true, Bool.not_eq_false] at hc1
        have hlt : k < l.length := by omega
        refine AWp.skip ?_
        refine thenQ_n ?_
        refine hK6 _ _ ?_
        try clear hK6 K6
        refine AWp.mask [true, true, true] rfl ?_
        simp only [go_sem]
        refine AWp.seq fun K8 hK8 => ?_
        refine AWp.block ?_
        refine AWp.ds true [0, 1, 2, 3, 4, 5, 6, 7, 8] rfl (by kernel_rfl) fun K9 hK9 => ?_
        try simp only [go_sem, icast, txsD_len, txsD_get hlt]
        (repeat (with_reducible refine And.intro ?_ ?_; (first | omega | (intro _; omega) | decide | (exact nfB) | (intro _; exact nfB) | (intro hg; refine ⟨hg, ?_⟩; omega) | (simp; done) | (simp; omega) | (intro hg; simp at hg; done) | (intro hg; simp at hg ⊢; first | omega | exact hg | grind))))
        refine hK9 _ _ ?_
        try clear hK9 K9
        refine AWp.mask [true, true, true, false, false, false, false, false, false, false, false, true] rfl ?_
        simp only [go_sem]
        refine AWp.cond _ rfl (fun hc2 => ?_) (fun hc2 => ?_)
        · skip
          exact absurd hc2 (by simp)
        · skip
          try simp only [decide_eq_true_eq, decide_eq_false_iff_not, Bool.not_eq_true', Bool.not_eq_false', Bool.and_eq_true, Bool.or_eq_true, Bool.and_eq_false_iff, Bool.or_eq_false_iff, Int.not_lt, Int.not_le, beq_iff_eq, beq_eq_false_iff_ne, ne_eq, Bool.not_eq_true, Bool.not_eq_false] at hc2
          refine AWp.skip ?_
          refine blkQ_n (thenQ_n ?_)
          refine hK8 _ _ ?_
          try clear hK8 K8
          refine AWp.rk fun K10 hK10 => ?_
          try simp only [go_sem, icast, txsD_len, txsD_get hlt]
          (repeat (with_reducible refine And.intro ?_ ?_; (first | omega | (intro _; omega) | decide | (exact nfB) | (intro _; exact nfB) | (intro hg; refine ⟨hg, ?_⟩; omega) | (simp; done) | (simp; omega) | (intro hg; simp at hg; done) | (intro hg; simp at hg ⊢; first | omega | exact hg | grind))))
          refine hK10 _ _ ?_
          try clear hK10 K10
          refine thenQ_n ?_
          refine EndS.mkr [true, true] [false, false, true] rfl ?_ ?_
          · (try simp only [go_sem, icast, txsD_len, txsD_get hlt]) <;> try rfl
          refine .e ⟨_, ?_, k + 1, rfl, ?_, ?_, ?_⟩
          · first | omega | (simp; omega) | (grind)
          · (try simp only [go_sem, icast, txsD_len, txsD_get hlt]) <;> first | exact ⟨rfl⟩ | (constructor; simp; done)
          · (try simp only [go_sem, icast, txsD_len, txsD_get hlt]) <;> first | exact ⟨rfl⟩ | (constructor; simp; done)
          all_goals (first | omega | assumption | grind)
      · skip
        try simp only [decide_eq_true_eq, decide_eq_false_iff_not, Bool.not_eq_true', Bool.not_eq_false', Bool.and_eq_true, Bool.or_eq_true, Bool.and_eq_false_iff, Bool.or_eq_false_iff, Int.not_lt, Int.not_le, beq_iff_eq, beq_eq_false_iff_ne, ne_eq, Bool.not_eq_true, Bool.not_eq_false] at hc1
        refine AWp.exit ?_
        refine thenQ_e (thenQ_e (blkQ_e (thenQ_n ?_)))
        refine hK4 _ _ ?_
        try clear hK4 K4
        refine AWp.mask [] rfl ?_
        simp only [go_sem]
        refine AWp.rs fun K11 hK11 => ?_
        try simp only [go_sem, icast, txsD_len]
        (repeat (with_reducible refine And.intro ?_ ?_; (first | omega | (intro _; omega) | decide | (exact nfB) | (intro _; exact nfB) | (intro hg; refine ⟨hg, ?_⟩; omega) | (simp; done) | (simp; omega) | (intro hg; simp at hg; done) | (intro hg; simp at hg ⊢; first | omega | exact hg | grind))))
        refine hK11 _ _ ?_
        try clear hK11 K11
        refine AWp.ret ?_
        try simp only [go_sem, icast, txsD_len]
        try simp [LeA, LeL, LeD]
theorem vx_len {l : List (Tx × Tx)} {t : Tx} (ok : MsgOk l t) (nm : Tx) : (if msgE l t = 0 then valsM l nm else []).length ≤ 10000000000000 := by
  have := vals_len l nm
  have := ok.hn
  split
  · omega
  · simp
set_option maxRecDepth 4000 in
set_option maxHeartbeats 1000000 in
theorem letterValues_c (T : Tbl) (hL : LibT T) (l : List (Tx × Tx)) (t : Tx) (ok : MsgOk l t) (nm : Tx) : PC Tryd.prog T 12 [.agg [.d (.slc 2 (fldsD l)), .d (.str t)], .d (.str nm)] (.d (.bool true)) := by
  refine ⟨Tryd.call12, PCall.enterS Tryd.func12 rfl Tryd.ntmps12 rfl fun hb => ?_⟩
  simp only [go_sem, Tryd.results12]
  refine AWp.rs fun K1 hK1 => ?_
  try simp only [go_sem, decide_true, Bool.true_and]
  (repeat (with_reducible refine And.intro ?_ ?_; (first | omega | (intro _; omega) | decide | (exact nfB) | (intro _; exact nfB) | (intro hg; refine ⟨hg, ?_⟩; omega) | (simp; done) | (simp; omega) | (intro hg; simp at hg; done) | (intro hg; simp at hg ⊢; first | omega | exact hg | grind))))
  intro b2
  first | intro fb2 | have fb2 := True.intro
  try simp only [freshL] at fb2
  try simp only [go_sem, decide_true, Bool.true_and, fb2]
  (repeat (with_reducible refine And.intro ?_ ?_; (first | omega | (intro _; omega) | decide | (exact nfB) | (intro _; exact nfB) | (intro hg; refine ⟨hg, ?_⟩; omega) | (simp; done) | (simp; omega) | (intro hg; simp at hg; done) | (intro hg; simp at hg ⊢; first | omega | exact hg | grind))))
  refine hK1 _ _ ?_
  try clear hK1 K1
  refine AWp.rs fun K2 hK2 => ?_
  try simp only [go_sem, decide_true, Bool.true_and, fb2]
  (repeat (with_reducible refine And.intro ?_ ?_; (first | omega | (intro _; omega) | decide | (exact nfB) | (intro _; exact nfB) | (intro hg; refine ⟨hg, ?_⟩; omega) | (simp; done) | (simp; omega) | (intro hg; simp at hg; done) | (intro hg; simp at hg ⊢; first | omega | exact hg | grind))))
  refine DW.pcr rfl rfl rfl rfl (messages_c T l t ok) rfl rfl ?_
  try simp only [go_sem, decide_true, Bool.true_and, fb2]
  (repeat (with_reducible refine And.intro ?_ ?_; (first | omega | (intro _; omega) | decide | (exact nfB) | (intro _; exact nfB) | (intro hg; refine ⟨hg, ?_⟩; omega) | (simp; done) | (simp; omega) | (intro hg; simp at hg; done) | (intro hg; simp at hg ⊢; first | omega | exact hg | grind))))
  refine DW.pcr rfl rfl rfl rfl (Values_c T hL l t ok nm) rfl rfl ?_
  try simp only [go_sem, decide_true, Bool.true_and, fb2]
  (repeat (with_reducible refine And.intro ?_ ?_; (first | omega | (intro _; omega) | decide | (exact nfB) | (intro _; exact nfB) | (intro hg; refine ⟨hg, ?_⟩; omega) | (simp; done) | (simp; omega) | (intro hg; simp at hg; done) | (intro hg; simp at hg ⊢; first | omega | exact hg | grind))))
  refine hK2 _ _ ?_
  try clear hK2 K2
  refine AWp.mask [false, true, true, false, true, true] rfl ?_
  simp only [go_sem]
  refine AWp.rs fun K3 hK3 => ?_
  try simp only [go_sem, decide_true, Bool.true_and, fb2]
  (repeat (with_reducible refine And.intro ?_ ?_; (first | omega | (intro _; omega) | decide | (exact nfB) | (intro _; exact nfB) | (intro hg; refine ⟨hg, ?_⟩; omega) | (simp; done) | (simp; omega) | (intro hg; simp at hg; done) | (intro hg; simp at hg ⊢; first | omega | exact hg | grind))))
  refine DW.pcr rfl rfl rfl rfl (ValuesOf_c T l t ok nm) rfl rfl ?_
  try simp only [go_sem, decide_true, Bool.true_and, fb2]
  (repeat (with_reducible refine And.intro ?_ ?_; (first | omega | (intro _; omega) | decide | (exact nfB) | (intro _; exact nfB) | (intro hg; refine ⟨hg, ?_⟩; omega) | (simp; done) | (simp; omega) | (intro hg; simp at hg; done) | (intro hg; simp at hg ⊢; first | omega | exact hg | grind))))
  refine hK3 _ _ ?_
  try clear hK3 K3
  refine AWp.mask [false, false, true, true, true, true] rfl ?_
  simp only [go_sem]
  refine AWp.rs fun K4 hK4 => ?_
  try simp only [go_sem, decide_true, Bool.true_and, fb2]
  (repeat (with_reducible refine And.intro ?_ ?_; (first | omega | (intro _; omega) | decide | (exact nfB) | (intro _; exact nfB) | (intro hg; refine ⟨hg, ?_⟩; omega) | (simp; done) | (simp; omega) | (intro hg; simp at hg; done) | (intro hg; simp at hg ⊢; first | omega | exact hg | grind))))
  refine DW.pcgr rfl rfl rfl rfl rfl (fun hg => sameTx_c T _ (vx_len ok nm)) (fun hg => by (try simp only [go_sem, decide_true, Bool.true_and, fb2]) <;> first | exact hg | (exfalso; simp at hg; done) | (simpa using hg) | grind) rfl rfl ?_
  try simp only [go_sem, decide_true, Bool.true_and, fb2]
  (repeat (with_reducible refine And.intro ?_ ?_; (first | omega | (intro _; omega) | decide | (exact nfB) | (intro _; exact nfB) | (intro hg; refine ⟨hg, ?_⟩; omega) | (simp; done) | (simp; omega) | (intro hg; simp at hg; done) | (intro hg; simp at hg ⊢; first | omega | exact hg | grind))))
  refine hK4 _ _ ?_
  try clear hK4 K4
  refine AWp.mask [true] rfl ?_
  simp only [go_sem]
  refine AWp.ret ?_
  try simp only [go_sem, decide_true, Bool.true_and, fb2]
  try simp [LeA, LeL, LeD]
end Go.Proofs.YthhfbolhlbgbgaaDoor

namespace Go.Proofs.YthhfbolhlbgbgaaDoor
open Go.RowKit Go.ChangeShapes Go.WideShapes Go.ChangeAt
set_option linter.unusedSimpArgs false
set_option linter.unusedVariables false
open Go.ChangeShapes Go.WideShapes Go.ChangeAt
open Go.ChangeMaps (open_string)
set_option maxRecDepth 100000
theorem letterValues_run {H : Type} {enc : TypeId × Value → H} (W : World) (base : Nat) (v0 v1 : Value) (d0 : DataW H) (p0 : List MemPlace) (d1 : DataW H) (p1 : List MemPlace)
    (k0 : Value.okWide Tryd.prog W .any base 64 v0) (h0 : DataW.Trod enc Tryd.prog W 0 (fun _ => true) true 64 v0 d0 p0) (k1 : Value.okWide Tryd.prog W .any base 9 v1) (h1 : DataW.Trod enc Tryd.prog W 0 (fun _ => true) true 9 v1 d1 p1) (t0 : Tiny d0) (t1 : Tiny d1)
    (hL : laidMetH Tryd.prog Rows.letterValuesRow.laid W) (hsh : W.ShapedOpen Tryd.prog) :
    Calls Tryd.prog 12 #[v0, v1] W fun e W' => e = .returned (.bool true) ∧ Below W.heap.size W W' := by
  obtain ⟨cs, rfl, hsz⟩ := okWide_struct Tryd.underlying64 k0
  obtain ⟨s, rfl, rfl, rfl, hs⟩ := open_string Tryd.underlying9 k1 h1
  obtain ⟨⟨l, t⟩, hx, hr⟩ := Dec.open_ dec_msg h0 t0
  dsimp only at hr
  have hx : VDs (frzW W) [.slc 2 (fldsD l), .str t] cs.toList := hx
  obtain ⟨_, m, hm⟩ := Lib0.open_ hsh
  refine law_calls (T := libT m) (letterValues_c (libT m) (libT_lib m) l t (msg_ok hr) s.data.toList) (libT_ok hm) ⟨rfl, fun i a ha => ?_⟩
  match i, ha with
  | 0, ha =>
    simp at ha
    subst ha
    exact ⟨_, rfl, hx.agg (G := gh0 W (frzW W))⟩
  | 1, ha =>
    simp at ha
    subst ha
    exact ⟨_, rfl, .d (.str s hs)⟩
  | i + 2, ha => simp at ha
end Go.Proofs.YthhfbolhlbgbgaaDoor

/- Texts that the law TokenCuts rests on, packed. -/
import Derived.Test.YtlfocommkkkgdaaDoorGB
import Derived.Lib.IndexBytes
import Derived.Test.YtlfocommkkkgdaaDoorGA
import Derived.Lib.Index
import Derived.Test.YtlfocommkkkgdaaDoorGT
import Derived.Test.YtlfocommkkkgdaaDoorGC
namespace Go.Proofs.YtlfocommkkkgdaaDoor
open Go.RowKit
set_option linter.unusedSimpArgs false
set_option linter.unusedVariables false
section
variable {P : Program} {T : Tbl} {G : Gh} {f : FuncId}
/-- a call that writes nothing that was there, and whose result holds no memory -/
theorem PC.old {args : List AV} {r : AV} (hcall : ∀ az w, (callFunc f az).run P w = .ok (.enter f az) w)
    (H : ∀ (F : Frz) (w : World) (vs : Array Value), (∀ b o u, F b o = some u → w.cell? ⟨b, o, none⟩ = some u) → (∀ g j x, (T g)[j]? = some x → ∃ u, F g j = some u ∧ VD F x u) → SlR (gh0 w F) args vs → Calls P f vs w fun e w' => ∃ v, e = .returned v ∧ Below w.heap.size w w' ∧ VR (gh0 w F) r v) : PC P T f args r := by
  refine ⟨hcall, fun F w vs hF hT R => (H F w vs hF hT R).mono ?_⟩
  rintro e w' ⟨v, rfl, hb, hv⟩
  refine ⟨v, F, rfl, hb, fun _ _ _ e => e, fun _ _ _ e => .inl e, fun b o u e => ?_, hv⟩
  have h1 := hF b o u e
  have hlt : b < w.heap.size := World.block_lt_of_cell? (w := w) (a := ⟨b, o, none⟩) h1
  rw [← h1]
  exact World.cell?_of_block (w := w) (a := ⟨b, o, none⟩) (hb.block b hlt)
theorem slr1 {a : AV} {vs : Array Value} (R : SlR G [a] vs) : ∃ v, vs = #[v] ∧ VR G a v := by
  obtain ⟨h1, h2⟩ := R
  obtain ⟨v, h3, h4⟩ := h2 0 a rfl
  refine ⟨v, ?_, h4⟩
  apply Array.ext_getElem?
  intro i
  cases i with
  | zero => simpa using h3
  | succ i => rw [Array.getElem?_eq_none (by rw [h1]; simp), Array.getElem?_eq_none (by simp)]
theorem slr2 {a b : AV} {vs : Array Value} (R : SlR G [a, b] vs) : ∃ v u, vs = #[v, u] ∧ VR G a v ∧ VR G b u := by
  obtain ⟨h1, h2⟩ := R
  obtain ⟨v, h3, h4⟩ := h2 0 a rfl
  obtain ⟨u, h5, h6⟩ := h2 1 b rfl
  refine ⟨v, u, ?_, h4, h6⟩
  apply Array.ext_getElem?
  intro i
  match i with
  | 0 => simpa using h3
  | 1 => simpa using h5
  | i + 2 => rw [Array.getElem?_eq_none (by rw [h1]; simp), Array.getElem?_eq_none (by simp)]
/-- the values of tables' first cells -/
theorem tbl_cell {F : Frz} {w : World} {g j : Nat} {x : D} (hF : ∀ b o u, F b o = some u → w.cell? ⟨b, o, none⟩ = some u) (hT : ∀ g j x, (T g)[j]? = some x → ∃ u, F g j = some u ∧ VD F x u) (h : (T g)[j]? = some x) : ∃ u, w.cell? ⟨g, j, none⟩ = some u ∧ VD F x u := by
  obtain ⟨u, h1, h2⟩ := hT g j x h
  exact ⟨u, hF _ _ _ h1, h2⟩
end
end Go.Proofs.YtlfocommkkkgdaaDoor

namespace Go.Proofs.YtlfocommkkkgdaaDoor
def marksL : List UInt8 := [33, 35, 36, 37, 38, 39, 42, 43, 45, 47, 61, 63, 94, 95, 123, 124, 125, 126, 96]
def alnumB (c : UInt8) : Bool := (97 ≤ c.toNat && c.toNat ≤ 122) || (65 ≤ c.toNat && c.toNat ≤ 90) || (48 ≤ c.toNat && c.toNat ≤ 57)
def atomB (c : UInt8) : Bool := alnumB c || decide (0 ≤ Lib.indexByte marksL c)
def dotGo : Bool → List UInt8 → Bool
  | d, [] => !d
  | d, c :: r => if c = 46 then !d && dotGo true r else atomB c && dotGo false r
end Go.Proofs.YtlfocommkkkgdaaDoor

namespace Go.Proofs.YtlfocommkkkgdaaDoor
set_option linter.unusedSimpArgs false
set_option linter.unusedVariables false

def adrE (l d : Tx) : Int := if dotGo true l = false ∨ dotGo true d = false then 3 else if 99 < l.length + d.length then 1 else 0
abbrev Ad := Tx × Tx
/-! bit by bit -/
structure Bt where
  text : Tx
  run : Bool
  quo : Bool
  apart : Bool
def plainB : List Bt → Option (Ad × List Bt)
  | a :: b :: c :: t => if a.run = true ∧ b.text = [64] ∧ c.run = true ∧ b.apart = false ∧ c.apart = false ∧ adrE a.text c.text = 0 then some ((a.text, c.text), t) else none
  | _ => none
def wordB (b : Bt) : Bool := b.run || b.quo
def angB : List Bt → Option (Ad × List Bt)
  | [] => none
  | x :: l => if x.text = [60] then
      match plainB l with
      | some (a, y :: t) => if l.head?.map Bt.apart = some false ∧ y.text = [62] ∧ y.apart = false then some (a, t) else none
      | _ => none
    else none
def addrB (l : List Bt) : Option (Ad × List Bt) :=
  match plainB l with
  | some x => some x
  | none => angB (l.dropWhile wordB)
theorem plainB_len {l : List Bt} {a : Ad} {t : List Bt} (h : plainB l = some (a, t)) : t.length + 3 = l.length := by
  unfold plainB at h
  split at h
  · split at h
    · injection h with h; injection h with h1 h2; subst h2; simp
    · cases h
  · cases h
theorem angB_len {l : List Bt} {a : Ad} {t : List Bt} (h : angB l = some (a, t)) : t.length < l.length := by
  cases l with
  | nil => simp [angB] at h
  | cons x l =>
    simp only [angB] at h
    split at h
    · split at h
      · rename_i a' y t' hp
        have := plainB_len hp
        split at h
        · injection h with h; injection h with h1 h2; subst h2; simp at this ⊢; omega
        · cases h
      · cases h
    · cases h
theorem addrB_len {l : List Bt} {a : Ad} {t : List Bt} (h : addrB l = some (a, t)) : t.length < l.length := by
  unfold addrB at h
  split at h
  · rename_i hp; injection h with h; subst h; have := plainB_len hp; omega
  · have := angB_len h
    have h2 := (List.dropWhile_sublist (l := l) wordB).length_le
    omega
def listB (l : List Bt) : Option (List Ad) :=
  match h : addrB l with
  | none => none
  | some (a, []) => some [a]
  | some (a, x :: t) => if x.text = [44] then (listB t).map (a :: ·) else none
  termination_by l.length
  decreasing_by
    have := addrB_len h
    simp at this
    omega
end Go.Proofs.YtlfocommkkkgdaaDoor

namespace Go.Proofs.YtlfocommkkkgdaaDoor
set_option linter.unusedSimpArgs false
set_option linter.unusedVariables false
end Go.Proofs.YtlfocommkkkgdaaDoor

namespace Go.Proofs.YtlfocommkkkgdaaDoor
set_option linter.unusedSimpArgs false
set_option linter.unusedVariables false
structure Tk where
  kind : Int
  text : Tx
  num : Int
def tkD (t : Tk) : List D := [.int .i64 t.kind, .str t.text, .int .i64 t.num]
def tkA (t : Tk) : List AV := [.d (.int .i64 t.kind), .d (.str t.text), .d (.int .i64 t.num)]
def tksD (l : List Tk) : List (List D) := l.map tkD
@[go_sem] theorem tksD_len (l : List Tk) : (tksD l).length = l.length := by simp [tksD]
theorem tksD_get (l : List Tk) (i : Nat) (d : List D) (h : i < l.length) : (tksD l).getD i d = tkD (l[i]'h) := by simp [tksD, List.getD, h]
theorem brApp (a c : Tx) : byteRows a ++ byteRows c = byteRows (a ++ c) := by simp [byteRows]
@[go_sem] theorem brLen (a : Tx) : (byteRows a).length = a.length := by simp [byteRows]
theorem brOne (c : UInt8) : [[D.int .u8 (c.toNat : Int)]] = byteRows [c] := rfl
end Go.Proofs.YtlfocommkkkgdaaDoor

namespace Go.Proofs.YtlfocommkkkgdaaDoor
set_option linter.unusedSimpArgs false
set_option linter.unusedVariables false
def letB (c : UInt8) : Bool := (decide (97 ≤ (c.toNat : Int)) && decide ((c.toNat : Int) ≤ 122)) || (decide (65 ≤ (c.toNat : Int)) && decide ((c.toNat : Int) ≤ 90)) || decide ((c.toNat : Int) = 95)
def digB (c : UInt8) : Bool := decide (48 ≤ (c.toNat : Int)) && decide ((c.toNat : Int) ≤ 57)
def wdB (c : UInt8) : Bool := letB c || digB c
def blB (c : UInt8) : Bool := decide ((c.toNat : Int) = 32) || decide ((c.toNat : Int) = 9) || decide ((c.toNat : Int) = 13) || decide ((c.toNat : Int) = 10)
def nlB (c : UInt8) : Bool := !decide ((c.toNat : Int) = 10)
def mkB (c : UInt8) : Bool := decide ((c.toNat : Int) = 123) || decide ((c.toNat : Int) = 125) || decide ((c.toNat : Int) = 40) || decide ((c.toNat : Int) = 41) || decide ((c.toNat : Int) = 91) || decide ((c.toNat : Int) = 93) || decide ((c.toNat : Int) = 59) || decide ((c.toNat : Int) = 44)
theorem u8_is {c : UInt8} {n : Nat} (h : (c.toNat : Int) = n) (hn : n < 256) : c = UInt8.ofNat n := by
  apply UInt8.toNat.inj
  rw [UInt8.toNat_ofNat']
  omega
/-- what says nothing: modes 0 (before a token), 1 (a line's end is sought), 2 (a comment's end is sought, that began at st): what stands behind; does it end? -/
def sil : Nat → Tx → Tx → Tx × Bool
  | 2, st, 42 :: 47 :: r => sil 0 [] r
  | 2, st, _ :: r => sil 2 st r
  | 2, st, [] => (st, false)
  | 1, _, c :: r => if c = 10 then sil 0 [] r else sil 1 [] r
  | 0, _, c :: r => if blB c = true then sil 0 [] r else if c = 35 then sil 1 [] r else if c = 47 ∧ r.head? = some 42 then sil 2 (c :: r) (r.drop 1) else (c :: r, true)
  | _, _, [] => ([], true)
  | _, _, c :: r => (c :: r, true)
termination_by _ _ l => l.length
decreasing_by all_goals (simp_wf <;> (try simp) <;> omega)
theorem sil_nil : sil 0 [] [] = ([], true) := by rw [sil] <;> simp
theorem sil_bl {c : UInt8} {r : Tx} (h : blB c = true) : sil 0 [] (c :: r) = sil 0 [] r := by rw [sil, if_pos h]
theorem sil_dw : ∀ l : Tx, sil 0 [] (l.dropWhile blB) = sil 0 [] l
  | [] => rfl
  | c :: r => by
    cases h : blB c with
    | true => rw [List.dropWhile_cons_of_pos h, sil_dw r, sil_bl h]
    | false => rw [List.dropWhile_cons_of_neg (by simp [h])]
theorem sil1_dw : ∀ l : Tx, sil 1 [] l = sil 0 [] (l.dropWhile nlB)
  | [] => by rw [sil, List.dropWhile_nil, sil_nil] <;> simp
  | c :: r => by
    by_cases h : c = 10
    · subst h
      rw [sil, if_pos rfl, List.dropWhile_cons_of_neg (by decide), sil_bl (by decide)]
    · have h9 : ¬ (c.toNat : Int) = 10 := fun e => h (u8_is (n := 10) e (by decide))
      have hn : nlB c = true := by simp only [nlB, h9, decide_false, Bool.not_false]
      rw [sil, if_neg h, List.dropWhile_cons_of_pos hn, sil1_dw r]
theorem sil_hash {r : Tx} : sil 0 [] (35 :: r) = sil 0 [] ((35 :: r).dropWhile nlB) := by
  rw [sil, if_neg (by decide), if_pos rfl, List.dropWhile_cons_of_pos (by decide), sil1_dw]
theorem sil_com {r : Tx} : sil 0 [] (47 :: 42 :: r) = sil 2 (47 :: 42 :: r) r := by
  rw [sil, if_neg (by decide), if_neg (by decide), if_pos ⟨rfl, rfl⟩]; rfl
theorem sil_tok {c : UInt8} {r : Tx} (h1 : blB c = false) (h2 : ¬ c = 35) (h3 : ¬ (c = 47 ∧ r.head? = some 42)) : sil 0 [] (c :: r) = (c :: r, true) := by
  rw [sil, if_neg (by simp [h1]), if_neg h2, if_neg h3]
theorem sil2_ix : ∀ (r st : Tx), sil 2 st r = if Lib.index r [42, 47] < 0 then (st, false) else sil 0 [] (r.drop ((Lib.index r [42, 47]).toNat + 2))
  | [], st => by rw [sil]; rfl
  | c :: r, st => by
    unfold Lib.index
    by_cases hp : ([42, 47] : Tx).isPrefixOf (c :: r) = true
    · rw [if_pos hp]
      cases r with
      | nil => simp [List.isPrefixOf] at hp
      | cons d q =>
        simp [List.isPrefixOf] at hp
        obtain ⟨rfl, rfl⟩ := hp
        rw [sil]
        simp
    · rw [if_neg hp]
      have h2 : sil 2 st (c :: r) = sil 2 st r := by
        rw [sil]
        intro q h1 h2
        subst h1 h2
        exact hp (by simp [List.isPrefixOf])
      have := Lib.index_ge r [42, 47]
      rw [h2, sil2_ix r st]
      split
      · rename_i h9
        have : Lib.index r [42, 47] = -1 := by omega
        rw [this]; rfl
      · rename_i h9
        have h8 : ¬ (Lib.index r [42, 47] == -1) = true := by simp; omega
        rw [if_neg h8, if_neg (by omega)]
        rw [show (Lib.index r [42, 47] + 1).toNat + 2 = (Lib.index r [42, 47]).toNat + 2 + 1 by omega, List.drop_succ_cons]
theorem sil_suf : ∀ (n : Nat) (l : Tx), l.length ≤ n → (sil 0 [] l).1 <:+ l ∧ (sil 1 [] l).1 <:+ l ∧ ∀ st, l <:+ st → (sil 2 st l).1 <:+ st
  | n, [], hn => ⟨by rw [sil_nil]; exact List.suffix_refl _, by rw [sil1_dw, List.dropWhile_nil, sil_nil]; exact List.suffix_refl _, fun st h => by rw [sil2_ix]; exact List.suffix_refl _⟩
  | 0, c :: r, hn => by simp at hn
  | n + 1, c :: r, hn => by
    have hr : r.length ≤ n := by simp at hn; omega
    obtain ⟨h0, h1, h2⟩ := sil_suf n r hr
    have e0 : sil 0 [] (c :: r) = if blB c = true then sil 0 [] r else if c = 35 then sil 1 [] r else if c = 47 ∧ r.head? = some 42 then sil 2 (c :: r) (r.drop 1) else (c :: r, true) := by rw [sil]
    have e1 : sil 1 [] (c :: r) = if c = 10 then sil 0 [] r else sil 1 [] r := by rw [sil]
    refine ⟨?_, ?_, fun st hst => ?_⟩
    · rw [e0]
      split
      · exact h0.trans (List.suffix_cons _ _)
      split
      · exact h1.trans (List.suffix_cons _ _)
      split
      · exact (sil_suf n (r.drop 1) (by simp; omega)).2.2 _ ((List.drop_suffix _ _).trans (List.suffix_cons _ _))
      · exact List.suffix_refl _
    · rw [e1]
      split
      · exact h0.trans (List.suffix_cons _ _)
      · exact h1.trans (List.suffix_cons _ _)
    · rw [sil2_ix]
      split
      · exact List.suffix_refl _
      · exact ((sil_suf n ((c :: r).drop ((Lib.index (c :: r) [42, 47]).toNat + 2)) (by simp; omega)).1.trans (List.drop_suffix _ _)).trans hst
/-- where a token begins -/
def plS (s : Tx) (i : Nat) : Nat := s.length - (sil 0 [] (s.drop i)).1.length
def okP (s : Tx) (i : Nat) : Bool := (sil 0 [] (s.drop i)).2
theorem sil_at {s : Tx} {i j : Nat} {b : Bool} (hj : j ≤ s.length) (h : sil 0 [] (s.drop i) = (s.drop j, b)) : plS s i = j ∧ okP s i = b := by
  unfold plS okP
  rw [h]
  refine ⟨?_, rfl⟩
  rw [List.length_drop]
  omega
theorem plS_spec (s : Tx) (i : Nat) (hi : i ≤ s.length) : plS s i ≤ s.length ∧ i ≤ plS s i ∧ sil 0 [] (s.drop i) = (s.drop (plS s i), okP s i) := by
  have h := (sil_suf _ (s.drop i) (Nat.le_refl _)).1
  have hl := h.length_le
  rw [List.length_drop] at hl
  have h2 : (sil 0 [] (s.drop i)).1 <:+ s := h.trans (List.drop_suffix _ _)
  have h3 : (sil 0 [] (s.drop i)).1 = s.drop (s.length - (sil 0 [] (s.drop i)).1.length) := List.suffix_iff_eq_drop.1 h2
  refine ⟨by unfold plS; omega, by unfold plS; omega, ?_⟩
  unfold okP
  rw [show s.drop (plS s i) = (sil 0 [] (s.drop i)).1 from h3.symm]
/-- what stands together -/
def TwI (so : UInt8 → Bool) (s : Tx) (i j : Nat) : Prop := (s.drop i).takeWhile so = (s.drop i).take (j - i) ++ (s.drop j).takeWhile so
theorem TwI.z (so : UInt8 → Bool) (s : Tx) (i : Nat) : TwI so s i i := by unfold TwI; simp
theorem TwI.s {so : UInt8 → Bool} {s : Tx} {i j : Nat} (h : TwI so s i j) (hij : i ≤ j) (hj : j < s.length) (hs : so (s.getD j 0) = true) : TwI so s i (j + 1) := by
  unfold TwI at h ⊢
  have e : s.getD j 0 = s[j] := by simp [List.getD, hj]
  rw [e] at hs
  rw [h, List.drop_eq_getElem_cons hj, List.takeWhile_cons_of_pos hs, show j + 1 - i = (j - i) + 1 by omega]
  rw [List.take_succ_eq_append_getElem (by simp; omega)]
  simp [show i + (j - i) = j by omega]
theorem TwI.e {so : UInt8 → Bool} {s : Tx} {i j : Nat} (h : TwI so s i j) (hij : i ≤ j) (hj : j ≤ s.length) (hs : ¬ (j < s.length ∧ so (s.getD j 0) = true)) : (s.drop i).takeWhile so = (s.take j).drop i ∧ ((s.drop i).takeWhile so).length = j - i := by
  unfold TwI at h
  have h0 : (s.drop j).takeWhile so = [] := by
    rcases Nat.lt_or_ge j s.length with h9 | h9
    · have e : s.getD j 0 = s[j] := by simp [List.getD, h9]
      rw [e] at hs
      rw [List.drop_eq_getElem_cons h9, List.takeWhile_cons_of_neg (fun h8 => hs ⟨h9, h8⟩)]
    · rw [List.drop_eq_nil_of_le h9]; rfl
  rw [h0, List.append_nil] at h
  refine ⟨by rw [h, List.drop_take], ?_⟩
  rw [h, List.length_take, List.length_drop]
  omega
theorem dw_at (so : UInt8 → Bool) (s : Tx) (i : Nat) : (s.drop i).dropWhile so = s.drop (i + ((s.drop i).takeWhile so).length) := by
  have h := List.takeWhile_append_dropWhile (p := so) (l := s.drop i)
  have h2 : ((s.drop i).takeWhile so ++ (s.drop i).dropWhile so).drop ((s.drop i).takeWhile so).length = (s.drop i).dropWhile so := List.drop_left
  rw [h, List.drop_drop] at h2
  exact h2.symm
theorem tw_len (so : UInt8 → Bool) (s : Tx) (i : Nat) (hi : i ≤ s.length) : i + ((s.drop i).takeWhile so).length ≤ s.length := by
  have := (List.takeWhile_sublist so (l := s.drop i)).length_le
  rw [List.length_drop] at this
  omega
end Go.Proofs.YtlfocommkkkgdaaDoor

namespace Go.Proofs.YtlfocommkkkgdaaDoor
set_option linter.unusedSimpArgs false
set_option linter.unusedVariables false
set_option maxRecDepth 4000 in
set_option maxHeartbeats 1000000 in
theorem letter_c (T : Tbl) (c : UInt8) : PC Tryd.prog T 44 [.d (.int .u8 (c.toNat : Int))] (.d (.bool (letB c))) := by
 refine ⟨Tryd.call44, PCall.enterS Tryd.func44 rfl Tryd.ntmps44 rfl fun hb => ?_⟩
 simp only [go_sem, Tryd.results44]
 refine Zp 1 ?_
 refine Zp 2 ?_
 refine AWp.ret ?_
 try simp only [go_sem]
 simp [LeA, LeD, letB]
set_option maxRecDepth 4000 in
set_option maxHeartbeats 1000000 in
theorem digit_c (T : Tbl) (c : UInt8) : PC Tryd.prog T 46 [.d (.int .u8 (c.toNat : Int))] (.d (.bool (digB c))) := by
 refine ⟨Tryd.call46, PCall.enterS Tryd.func46 rfl Tryd.ntmps46 rfl fun hb => ?_⟩
 simp only [go_sem, Tryd.results46]
 refine Zp 1 ?_
 refine Zp 2 ?_
 refine AWp.ret ?_
 try simp only [go_sem]
 simp [LeA, LeD, digB]
set_option maxRecDepth 4000 in
set_option maxHeartbeats 1000000 in
theorem wd_c (T : Tbl) (c : UInt8) : PC Tryd.prog T 76 [.d (.int .u8 (c.toNat : Int))] (.d (.bool (wdB c))) := by
 refine ⟨Tryd.call76, PCall.enterS Tryd.func76 rfl Tryd.ntmps76 rfl fun hb => ?_⟩
 simp only [go_sem, Tryd.results76]
 refine Zp 1 ?_
 refine Zx ?_
 try simp only [go_sem]
 (repeat (with_reducible refine And.intro ZS ?_))
 refine DW.pcr rfl rfl rfl rfl (letter_c T c) rfl rfl ?_
 try simp only [go_sem]
 (repeat (with_reducible refine And.intro ZS ?_))
 refine DW.pcgr rfl rfl rfl rfl rfl (fun hg => digit_c T c) (fun hg => by (try simp only [go_sem]) <;> first | exact hg | (exfalso; simp at hg; done) | (simpa using hg) | grind) rfl rfl ?_
 try simp only [go_sem]
 (repeat (with_reducible refine And.intro ZS ?_))
 refine Zm 2 ?_
 refine AWp.ret ?_
 try simp only [go_sem]
 simp [LeA, LeD, wdB]
set_option maxRecDepth 4000 in
set_option maxHeartbeats 1000000 in
theorem bl_c (T : Tbl) (c : UInt8) : PC Tryd.prog T 39 [.d (.int .u8 (c.toNat : Int))] (.d (.bool (blB c))) := by
 refine ⟨Tryd.call39, PCall.enterS Tryd.func39 rfl Tryd.ntmps39 rfl fun hb => ?_⟩
 simp only [go_sem, Tryd.results39]
 refine Zp 1 ?_
 refine Zp 2 ?_
 refine AWp.ret ?_
 try simp only [go_sem]
 simp [LeA, LeD, blB]
set_option maxRecDepth 4000 in
set_option maxHeartbeats 1000000 in
theorem nl_c (T : Tbl) (c : UInt8) : PC Tryd.prog T 41 [.d (.int .u8 (c.toNat : Int))] (.d (.bool (nlB c))) := by
 refine ⟨Tryd.call41, PCall.enterS Tryd.func41 rfl Tryd.ntmps41 rfl fun hb => ?_⟩
 simp only [go_sem, Tryd.results41]
 refine Zp 1 ?_
 refine Zp 2 ?_
 refine AWp.ret ?_
 try simp only [go_sem]
 simp [LeA, LeD, nlB]
theorem get_nil {s : Tx} {i : Nat} (h : s.length ≤ i) : s.getD i 0 = 0 := by simp [List.getD, h]
attribute [local go_sem] icast8 in
set_option maxRecDepth 4000 in
set_option maxHeartbeats 1000000 in
theorem cnext_c (T : Tbl) (b : Nat) (s : Tx) (i : Nat) (F : List (Nat × Ob)) (L : List Nat) (hi : i ≤ s.length) (hs : s.length ≤ 1048576) : AC Tryd.prog T 40 [.ptr b 2 0 0] (⟨(b, ⟨2, 1, [[.d (.str s), .d (.int .i64 ((i : Nat) : Int))]]⟩) :: F, L⟩) (fun x h => x = .ret (.d (.int .u8 ((s.getD i 0).toNat : Int))) ∧ h = ⟨(b, ⟨2, 1, [[.d (.str s), .d (.int .i64 ((i : Nat) : Int))]]⟩) :: F, L⟩) := by
 refine ⟨Tryd.call40, ACalls.enterS Tryd.func40 rfl Tryd.ntmps40 rfl fun hb => ?_⟩
 simp only [go_sem, Tryd.results40]
 refine Zp 1 ?_
 refine Zs ?_
 refine Zd true [0, 1, 2, 3, 4, 5, 6, 7, 8, 9] ?_
 try simp only [go_sem]
 (repeat (with_reducible refine And.intro ZS ?_))
 refine Zm 1025 ?_
 refine Zc (fun hc0 => ?_) fun hc0 => ?_
 ·
  have hg := get_nil (s := s) (i := i) (by omega)
  rw [hg]
  refine Zp 2 ?_
  refine AWp.ret ?_
  try simp only [thenQ, blkQ]
  apply endW_r [] [] [b] [] (by (try simp only [go_sem]) <;> rfl)
  · exact ⟨rfl, by first | rfl | (simp only [go_sem, ]; done) | (simp only [go_sem, ]; rfl)⟩
  · simp [LeA, LeD]
 have hlt : i < s.length := by omega
 have hki : (i : Int) < (s.length : Int) := by omega
 refine Zk ?_
 refine Zd true [0, 1, 2, 3, 4, 5, 6, 7, 8, 9] ?_
 try simp only [go_sem, hki]
 (repeat (with_reducible refine And.intro ZS ?_))
 refine Zm 2 ?_
 refine AWp.ret ?_
 try simp only [thenQ, blkQ]
 apply endW_r [] [] [b] [] (by (try simp only [go_sem, hki]) <;> rfl)
 · exact ⟨rfl, by first | rfl | (simp only [go_sem, hki]; done) | (simp only [go_sem, hki]; rfl)⟩
 · simp [LeA, LeD]
attribute [local go_sem] icast8 in
set_option maxRecDepth 4000 in
set_option maxHeartbeats 1000000 in
theorem span_c (T : Tbl) (b : Nat) (s : Tx) (i : Nat) (F : List (Nat × Ob)) (L : List Nat) (hi : i ≤ s.length) (hs : s.length ≤ 1048576) (f : FuncId) (so : UInt8 → Bool) (hso : ∀ c : UInt8, PC Tryd.prog T f [.d (.int .u8 (c.toNat : Int))] (.d (.bool (so c)))) : AC Tryd.prog T 38 [.ptr b 2 0 0, .fn f []] (⟨(b, ⟨2, 1, [[.d (.str s), .d (.int .i64 ((i : Nat) : Int))]]⟩) :: F, L⟩) (fun x h => x = .ret (.d (.str ((s.drop i).takeWhile so))) ∧ h = ⟨(b, ⟨2, 1, [[.d (.str s), .d (.int .i64 ((i + ((s.drop i).takeWhile so).length : Nat) : Int))]]⟩) :: F, L⟩) := by
 refine ⟨Tryd.call38, ACalls.enterS Tryd.func38 rfl Tryd.ntmps38 rfl fun hb => ?_⟩
 simp only [go_sem, Tryd.results38]
 refine Zp 3 ?_
 refine Zp 7 ?_
 refine Zs ?_
 refine AWp.block ?_
 simp only [go_sem]
 refine Zl 7 0 (fun n lc hc => ∃ (j : Nat), n = s.length - j ∧ EqS lc [] ∧ EqS hc (⟨(b, ⟨2, 1, [[.d (.str s), .d (.int .i64 ((j : Nat) : Int))]]⟩) :: F, L⟩) ∧ (i ≤ j) ∧ (j ≤ s.length) ∧ (TwI so s i j)) ?_ ?_
 · refine ⟨_, i, rfl, ZE, ZE, ?_, ?_, ?_⟩
   all_goals (first | omega | exact TwI.z _ _ _)
 rintro _ _ _ ⟨j, rfl, ⟨rfl⟩, ⟨rfl⟩, h1, h2, h3⟩
 simp only [go_sem]
 refine Zs ?_
 refine Zd true [0, 1, 2, 3, 4, 5, 6, 7, 8, 9, 10, 11, 12, 13, 14, 15, 16, 17, 18, 19, 20, 21, 22] ?_
 try simp only [go_sem]
 (repeat (with_reducible refine And.intro ZS ?_))
 refine DW.pcgr rfl rfl rfl rfl rfl (fun hg => hso _) (fun hg => by (try simp only [go_sem]) <;> first | exact hg | (exfalso; simp at hg; done) | (simpa using hg) | grind) rfl rfl ?_
 try simp only [go_sem]
 (repeat (with_reducible refine And.intro ZS ?_))
 refine Zm 33554439 ?_
 refine Zc (fun hc0 => ?_) fun hc0 => ?_
 ·
  have hlt : j < s.length := by omega
  have hsb : so (s.getD j 0) = true := hc0.2
  refine Zk ?_
  refine AWp.block ?_
  refine Zr (blkQ_n (thenQ_n ?_))
  refine Ze 7 0 [] [] [b] [] (.e ⟨_, ZM, j + 1, rfl, ZE, ZE, ?_, ?_, ?_⟩)
  · omega
  · omega
  · exact h3.s h1 hlt hsb
 obtain ⟨e1, e2⟩ := h3.e h1 h2 (by rintro ⟨g1, g2⟩; rcases hc0 with h | h; omega; rw [g2] at h; cases h)
 have ej : i + ((s.drop i).takeWhile so).length = j := by omega
 have hsl : ((i : Int) ≤ (j : Int)) = True := by simp; omega
 rw [ej, e1]
 refine AWp.exit (thenQ_e (thenQ_e (blkQ_e (thenQ_n ?_))))
 refine Zd true [0, 1, 2, 3, 4, 5, 6, 7, 8, 9, 10] ?_
 try simp only [go_sem]
 (repeat (with_reducible refine And.intro ZS ?_))
 refine Zm 4 ?_
 refine AWp.ret ?_
 try simp only [thenQ, blkQ]
 apply endW_r [] [] [b] [] (by (try simp only [go_sem]) <;> rfl)
 · exact ⟨rfl, by first | rfl | (simp only [go_sem, ]; done) | (simp only [go_sem, ]; rfl)⟩
 · simp [LeA, LeD]
set_option maxRecDepth 4000 in
set_option maxHeartbeats 1000000 in
theorem cword_c (T : Tbl) (b : Nat) (s : Tx) (i : Nat) (F : List (Nat × Ob)) (L : List Nat) (hi : i ≤ s.length) (hs : s.length ≤ 1048576) : AC Tryd.prog T 45 [.ptr b 2 0 0] (⟨(b, ⟨2, 1, [[.d (.str s), .d (.int .i64 ((i : Nat) : Int))]]⟩) :: F, L⟩) (fun x h => x = .ret (.d (.str ((s.drop i).takeWhile wdB))) ∧ h = ⟨(b, ⟨2, 1, [[.d (.str s), .d (.int .i64 ((i + ((s.drop i).takeWhile wdB).length : Nat) : Int))]]⟩) :: F, L⟩) := by
 refine ⟨Tryd.call45, ACalls.enterS Tryd.func45 rfl Tryd.ntmps45 rfl fun hb => ?_⟩
 simp only [go_sem, Tryd.results45]
 refine Zp 1 ?_
 refine Zx ?_
 try simp only [go_sem]
 (repeat (with_reducible refine And.intro ZS ?_))
 refine DW.acp [b] [] rfl rfl rfl rfl (by (try simp only [go_sem]) <;> rfl) rfl (span_c T b s i F L hi hs _ wdB (wd_c T)) ?_
 rintro _ _ ⟨rfl, rfl⟩
 try simp only [go_sem]
 (repeat (with_reducible refine And.intro ZS ?_))
 refine AWp.ret ?_
 try simp only [thenQ, blkQ]
 apply endW_r [] [] [b] [] (by (try simp only [go_sem]) <;> rfl)
 · exact ⟨rfl, by first | rfl | (simp only [go_sem, ]; done) | (simp only [go_sem, ]; rfl)⟩
 · simp [LeA, LeD]
end Go.Proofs.YtlfocommkkkgdaaDoor

namespace Go.Proofs.YtlfocommkkkgdaaDoor
open Go.RowKit
set_option linter.unusedSimpArgs false
set_option linter.unusedVariables false
section
variable {P : Program} {T : Tbl} {h : AH} {sl : List AV} {ops : Array Oper} {rest : List Oper} {o : Oper} {K : List AV → AH → Prop} {X : AV → AH → Prop}
theorem AYv.nilN {ρ : Operand → AV} {t k : Nat} {x : Operand} (ho : o.op = .binOp .neq t x (.const .nilIface) k) (hx : ρ x = .nili) (hu : isIf P t = true) : AYv P T o ρ h (.d (.bool false)) := by
  intro G w a S hv Kc Q hK
  have h1 := hv x (by simp [ho, Op.operands])
  rw [hx] at h1
  have hex : a.eval x = .nilIface := by cases hh : a.eval x <;> rw [hh] at h1 <;> first | rfl | cases h1
  obtain ⟨ms, hms⟩ : ∃ ms, P.underlying t = some (.interface ms) := by
    unfold isIf at hu
    split at hu
    · rename_i ms hh; exact ⟨ms, hh⟩
    · cases hu
  have heq : (Op.equal t .nilIface .nilIface).run P w = .ok true w := by
    have : ∀ d, (Op.equalIn (d + 1) t .nilIface .nilIface).run P w = .ok true w := fun d => by
      simp only [Op.equalIn, Sem.run_bind, run_underlying hms, Result.andThen_ok]
      rfl
    exact this 9999
  have hrun : (execOp a.eval o).run P w = .ok (.value (.bool false)) w := by
    unfold execOp
    simp only [ho]
    have e : binOp .neq t .nilIface .nilIface = (do pure (.bool (!(← Op.equal t .nilIface .nilIface))) : Sem Value) := rfl
    have ec : a.eval (.const .nilIface) = .nilIface := rfl
    rw [hex, ec]
    have eg : eqGuard .neq t x (.const .nilIface) .nilIface .nilIface = (pure () : Sem Unit) := by
      unfold eqGuard
      simp
    simp only [eg, pure_bind, e, Sem.run_bind, heq, Result.andThen_ok]
    rfl
  unfold Oper.wp
  rw [hrun]
  exact hK G _ w (Gle.refl G) S (.d (.bool false))
theorem DW.nilN {t k : Nat} {x : Operand} (ho : o.op = .binOp .neq t x (.const .nilIface) k) (hg : o.guard = none) (hx : ev T sl x = .nili) (hu : isIf P t = true) (kk : DW P T false ops rest (putA o.dst (.d (.bool false)) sl) h K X) : DW P T false ops (o :: rest) sl h K X := by
  have he : effK false o = false := by unfold effK; rw [hg, ho]
  unfold DW
  rw [if_neg (by rw [he]; decide)]
  refine ⟨.d (.bool false), ?_, fun _ h' => ?_, kk⟩
  · unfold Yg; rw [hg]; exact AYv.nilN ho hx hu
  · unfold Yg; rw [hg]; exact AYv.nilN ho hx hu
end
end Go.Proofs.YtlfocommkkkgdaaDoor

namespace Go.Proofs.YtlfocommkkkgdaaDoor
set_option linter.unusedSimpArgs false
set_option linter.unusedVariables false
/-- a text in quotes, behind the first one; and what stands behind it -/
def quoT : Tx → Option (Tx × Tx)
  | [] => none
  | c :: r => if c = 34 then some ([], r) else if c = 92 then (match r with
    | [] => none
    | d :: q => (quoT q).map fun p => (d :: p.1, p.2)) else (quoT r).map fun p => (c :: p.1, p.2)
theorem quo_1 {r : Tx} : quoT (34 :: r) = some ([], r) := by cases r <;> simp [quoT]
theorem quo_2 : quoT [92] = none := by simp [quoT]
theorem quo_3 {d : UInt8} {q : Tx} : quoT (92 :: d :: q) = (quoT q).map fun p => (d :: p.1, p.2) := by simp [quoT]
theorem quo_4 {c : UInt8} {r : Tx} (h : ¬ c = 34) (h2 : ¬ c = 92) : quoT (c :: r) = (quoT r).map fun p => (c :: p.1, p.2) := by cases r <;> simp [quoT, h, h2]
def QI (s : Tx) (i : Nat) (X : Tx) (j : Nat) : Prop := (quoT (s.drop j)).map (fun p => (X ++ p.1, p.2)) = quoT (s.drop (i + 1))
theorem getD_at {s : Tx} {j : Nat} (h : j < s.length) : s.drop j = s.getD j 0 :: s.drop (j + 1) := by
  rw [List.drop_eq_getElem_cons h]; simp [List.getD, h]
theorem QI.z (s : Tx) (i : Nat) : QI s i [] (i + 1) := by unfold QI; cases quoT (s.drop (i + 1)) <;> rfl
theorem QI.e {s X : Tx} {i j : Nat} (h : QI s i X j) (hj : s.length ≤ j) : quoT (s.drop (i + 1)) = none := by unfold QI at h; rw [List.drop_eq_nil_of_le hj] at h; exact h.symm
theorem QI.q {s X : Tx} {i j : Nat} (h : QI s i X j) (hj : j < s.length) (hc : ((s.getD j 0).toNat : Int) = 34) : quoT (s.drop (i + 1)) = some (X, s.drop (j + 1)) := by
  unfold QI at h
  rw [getD_at hj, u8_is (n := 34) hc (by decide), show UInt8.ofNat 34 = 34 from rfl, quo_1] at h
  rw [← h]; simp
theorem QI.n {s X : Tx} {i j : Nat} (h : QI s i X j) (hj : s.length ≤ j + 1) (hj1 : j < s.length) (hc : ((s.getD j 0).toNat : Int) = 92) : quoT (s.drop (i + 1)) = none := by
  unfold QI at h
  have e := u8_is (n := 92) hc (by decide)
  rw [getD_at hj1, e, List.drop_eq_nil_of_le hj, show UInt8.ofNat 92 = 92 from rfl, quo_2] at h
  exact h.symm
theorem QI.s2 {s X : Tx} {i j : Nat} (h : QI s i X j) (hj : j + 1 < s.length) (hc : ((s.getD j 0).toNat : Int) = 92) : QI s i (X ++ [s.getD (j + 1) 0]) (j + 1 + 1) := by
  unfold QI at h ⊢
  have e := u8_is (n := 92) hc (by decide)
  rw [getD_at (by omega : j < s.length), e, getD_at hj, show UInt8.ofNat 92 = 92 from rfl, quo_3] at h
  rw [← h]
  cases quoT (s.drop (j + 1 + 1)) <;> simp
theorem QI.s1 {s X : Tx} {i j : Nat} (h : QI s i X j) (hj : j < s.length) (hc : ¬ ((s.getD j 0).toNat : Int) = 34) (hd : ¬ ((s.getD j 0).toNat : Int) = 92) : QI s i (X ++ [s.getD j 0]) (j + 1) := by
  unfold QI at h ⊢
  rw [getD_at hj, quo_4 (fun e => hc (by rw [e]; rfl)) (fun e => hd (by rw [e]; rfl))] at h
  rw [← h]
  cases quoT (s.drop (j + 1)) <;> simp
def TxtR (b : Nat) (s : Tx) (i : Nat) (F : List (Nat × Ob)) (L : List Nat) (x : AR) (h : AH) : Prop :=
  (∃ (t : Tx) (j w : Nat), quoT (s.drop (i + 1)) = some (t, s.drop j) ∧ j ≤ s.length ∧ t.length ≤ j ∧ x = .ret (.tup [.d (.str t), .d (.bool true)]) ∧ h = ⟨(b, ⟨2, 1, [[.d (.str s), .d (.int .i64 ((j : Nat) : Int))]]⟩) :: F, L⟩) ∨
  (∃ (j : Nat), quoT (s.drop (i + 1)) = none ∧ j ≤ s.length ∧ x = .ret (.tup [.d (.str []), .d (.bool false)]) ∧ h = ⟨(b, ⟨2, 1, [[.d (.str s), .d (.int .i64 ((j : Nat) : Int))]]⟩) :: F, L⟩)
attribute [local go_sem] icast8 bytesOf_byteRows brOne brApp in
set_option maxRecDepth 4000 in
set_option maxHeartbeats 1000000 in
theorem ctext_c (T : Tbl) (b : Nat) (s : Tx) (i : Nat) (F : List (Nat × Ob)) (L : List Nat) (hi : i < s.length) (hs : s.length ≤ 1048576) : AC Tryd.prog T 48 [.ptr b 2 0 0] (⟨(b, ⟨2, 1, [[.d (.str s), .d (.int .i64 ((i : Nat) : Int))]]⟩) :: F, L⟩) (TxtR b s i F L) := by
 refine ⟨Tryd.call48, ACalls.enterS Tryd.func48 rfl Tryd.ntmps48 rfl fun hb => ?_⟩
 simp only [go_sem, Tryd.results48]
 refine Zp 1 ?_
 refine Zp 3 ?_
 refine Zs ?_
 refine Zp 3 ?_
 refine AWp.block ?_
 simp only [go_sem]
 refine AWp.ownNilS 4 1 rfl rfl (by decide) fun w0 fw0 => ?_
 try simp only [freshT] at fw0
 simp only [go_sem]
 refine Zl 1 2 (fun n lc hc => ∃ (j w : Nat) (X : Tx), n = s.length - j ∧ EqS lc [(4, .own w 1 (byteRows X))] ∧ EqS hc (⟨(b, ⟨2, 1, [[.d (.str s), .d (.int .i64 ((j : Nat) : Int))]]⟩) :: F, w :: L⟩) ∧ (i + 1 ≤ j) ∧ (j ≤ s.length) ∧ (QI s i X j) ∧ (X.length + 1 ≤ j)) ?_ ?_
 · refine ⟨_, i + 1, w0, [], rfl, ZE, ZE, ?_, ?_, ?_, ?_⟩
   all_goals (first | omega | exact QI.z _ _ | (simp; done))
 rintro _ _ _ ⟨j, w, X, rfl, ⟨rfl⟩, ⟨rfl⟩, h1, h2, h3, h4⟩
 simp only [go_sem]
 refine Zs ?_
 refine Zd true [0, 1, 2, 3, 4, 5, 6, 7, 8, 9] ?_
 try simp only [go_sem, fw0]
 (repeat (with_reducible refine And.intro ZS ?_))
 refine Zm 2051 ?_
 refine Zc (fun hc0 => ?_) fun hc0 => ?_
 ·
  have hlt : j < s.length := by omega
  have hki : (j : Int) < (s.length : Int) := by omega
  refine Zk ?_
  refine Zs ?_
  refine AWp.block ?_
  refine Zs ?_
  refine Zd true [0, 1, 2, 3, 4, 5, 6, 7, 8] ?_
  try simp only [go_sem, fw0, hki]
  (repeat (with_reducible refine And.intro ZS ?_))
  refine Zm 2051 ?_
  refine AWp.block ?_
  refine Zp 15 ?_
  refine Zc (fun hc1 => ?_) fun hc1 => ?_
  ·
   refine Zp 2 ?_
   refine Zp 3 ?_
   refine AWp.ret ?_
   try simp only [thenQ, blkQ]
   apply endW_r [] [w] [b] [] (by (try simp only [go_sem, fw0, hki]) <;> rfl)
   · exact .inl ⟨X, j + 1, 0, h3.q hlt hc1, by omega, by omega, rfl, by first | rfl | (simp only [go_sem, fw0, hki]; done)⟩
   · simp [LeA, LeD, LeL]
  refine Zp 19 ?_
  refine Zc (fun hc2 => ?_) fun hc2 => ?_
  ·
   have hc2 := hc2
   refine Zp 3 ?_
   refine Zd true [0, 1, 2, 3, 4, 5, 6, 7, 8, 9] ?_
   try simp only [go_sem, fw0, hki]
   (repeat (with_reducible refine And.intro ZS ?_))
   refine Zm 2051 ?_
   refine Zc (fun hc3 => ?_) fun hc3 => ?_
   ·
    refine Zp 6 ?_
    refine AWp.ret ?_
    try simp only [thenQ, blkQ]
    apply endW_r [] [w] [b] [] (by (try simp only [go_sem, fw0, hki]) <;> rfl)
    · exact .inr ⟨j + 1, h3.n (by omega) hlt hc2, by omega, rfl, by first | rfl | (simp only [go_sem, fw0, hki]; done)⟩
    · simp [LeA, LeD, LeL]
   have hl2 : j + 1 < s.length := by omega
   have hk2 : ((j + 1 : Nat) : Int) < (s.length : Int) := by omega
   refine AWp.skip (blkQ_n (thenQ_n ?_))
   refine Zt true [0, 1, 2, 3, 4, 5, 6, 7, 8, 9, 10, 11, 12] fun K_ k_ => ?_
   try simp only [go_sem, fw0, hki, hk2]
   (repeat (with_reducible refine And.intro ZS ?_))
   refine DW.app rfl rfl rfl rfl (show slI Tryd.prog 91 = some (5, 1, 1) by simp only [go_sem]) rfl rfl (by simp only [go_sem, fw0, hki, hk2]) (by first | exact .inl rfl | exact .inr rfl) (by simp only [go_sem, List.length_cons, List.length_nil]; omega) (by simp only [go_sem, List.length_cons, List.length_nil]; omega) fun t1 ft1 => ?_
   try simp only [freshT] at ft1
   try simp only [go_sem, fw0, hki, hk2, ft1]
   (repeat (with_reducible refine And.intro ZS ?_))
   refine k_ _ _ (blkQ_n (thenQ_n ?_))
   refine Zm 3 ?_
   refine Zr (thenQ_n ?_)
   refine Ze 1 2 [] [] [b] [t1] (.e ⟨_, ZM, (j + 1) + 1, t1, X ++ [s.getD (j + 1) 0], rfl, ZE, ZE, ?_, ?_, ?_, ?_⟩)
   · omega
   · omega
   · exact h3.s2 hl2 hc2
   · simp; omega
  refine AWp.skip (blkQ_n (thenQ_n ?_))
  refine Zt true [0, 1, 2, 3, 4, 5, 6, 7, 8, 9, 10, 11, 12] fun K_ k_ => ?_
  try simp only [go_sem, fw0, hki]
  (repeat (with_reducible refine And.intro ZS ?_))
  refine DW.app rfl rfl rfl rfl (show slI Tryd.prog 91 = some (5, 1, 1) by simp only [go_sem]) rfl rfl (by simp only [go_sem, fw0, hki]) (by first | exact .inl rfl | exact .inr rfl) (by simp only [go_sem, List.length_cons, List.length_nil]; omega) (by simp only [go_sem, List.length_cons, List.length_nil]; omega) fun t2 ft2 => ?_
  try simp only [freshT] at ft2
  try simp only [go_sem, fw0, hki, ft2]
  (repeat (with_reducible refine And.intro ZS ?_))
  refine k_ _ _ (blkQ_n (thenQ_n ?_))
  refine Zm 3 ?_
  refine Zr (thenQ_n ?_)
  refine Ze 1 2 [] [] [b] [t2] (.e ⟨_, ZM, j + 1, t2, X ++ [s.getD j 0], rfl, ZE, ZE, ?_, ?_, ?_, ?_⟩)
  · omega
  · omega
  · exact h3.s1 hlt hc1 hc2
  · simp; omega
 refine AWp.exit (thenQ_e (thenQ_e (blkQ_e (thenQ_n ?_))))
 refine Zp 6 ?_
 refine AWp.ret ?_
 try simp only [thenQ, blkQ]
 apply endW_r [] [w] [b] [] (by (try simp only [go_sem, fw0]) <;> rfl)
 · exact .inr ⟨j, h3.e (by omega), by omega, rfl, by first | rfl | (simp only [go_sem, fw0]; done)⟩
 · simp [LeA, LeD, LeL]
end Go.Proofs.YtlfocommkkkgdaaDoor

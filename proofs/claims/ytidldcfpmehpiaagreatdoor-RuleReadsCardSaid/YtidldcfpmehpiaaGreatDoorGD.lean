/- Texts that the laws rest on, packed. -/
import Derived.Test.YtidldcfpmehpiaaGreatDoorRows
import Derived.WalkKit
import Derived.WalkLawsBesides
import Derived.WalkSpells
import Derived.Lib.Hide
import Derived.Lib.Strings
import Derived.Lib.IndexBytes
import Derived.Below
import Derived.Deep.Draws
import Derived.Deep.QuietTactic
import Derived.BigQuiet
import Derived.ProofKit
import Derived.OpenShut
import Derived.ShutString
import Derived.ChangeOld
import Derived.JoinedCond
import Derived.SizedLaws
import Derived.Maps.AppendAt
import Derived.Lib.ConvBytes
import Derived.Laws.Cells
import Derived.Test.YtidldcfpmehpiaaGreatDoorRuleReadsK0
import Derived.Lib.SplitLaws
import Derived.Lib.Bytealg
import Derived.Test.YtidldcfpmehpiaaGreatDoorGB
import Derived.Lib.LaidTab
import Derived.FnData
import Derived.Deep.DeepHandedRow
set_option linter.unusedSimpArgs false
set_option linter.unusedVariables false
set_option maxRecDepth 20000
set_option maxHeartbeats 4000000
namespace Go.Proofs.YtidldcfpmehpiaaGreatDoor
section
open Go.RowKit
theorem ret_bool {a b : Bool} (h : a = b) : Ending.returned (.bool a) = .returned (.bool b) := by rw [h]
def bs (s : ByteArray) : List UInt8 := s.data.toList
theorem bs_len (s : ByteArray) : (bs s).length = s.size := (Lib.size_eq s).symm
theorem bs_get (s : ByteArray) (k : Nat) (h : k < s.size) : (bs s)[k]? = some s[k] := Lib.data_getElem? s k h
end
section
open Go.RowKit Go.ChangeShapes Go.WideShapes Go.ChangeAt
theorem own : ownKnob Tryz.prog.godebug = none := by kernel_rfl
theorem laidOut : laidOutB Tryz.prog = true := by kernel_rfl
section
variable {H : Type} {enc : TypeId × Value → H} {P : Program} {W W' : World}
theorem trodAll_below (hl : laidOutB P = true) (hb : Below W.heap.size W W') : ∀ {ts : List TypeId} {vs : List Value} {ds : List (DataW H)} {ps : List MemPlace},
  (∀ t ∈ ts, P.readableRec t = true ∧ t < P.types.size) → DataW.TrodAll enc P W 0 (fun _ => true) true ts vs ds ps →
  DataW.TrodAll enc P W' 0 (fun b => decide (b < W.heap.size)) true ts vs ds ps
 | [], [], [], _, _, h => h
 | t :: ts, v :: vs, d :: ds, ps, ht, h => by
  have hlt := DataW.TrodAll.lt h
  obtain ⟨p, q, h1, h2, rfl⟩ := h
  exact ⟨p, q, Below.trod hl (ht t (by simp)).1 (ht t (by simp)).2 h1 hb (fun x hx => hlt x (by simp [hx])), trodAll_below hl hb (fun u hu => ht u (by simp [hu])) h2, rfl⟩
 | [], _ :: _, _, _, _, h => h.elim
 | [], [], _ :: _, _, _, h => h.elim
 | _ :: _, [], _, _, _, h => h.elim
 | _ :: _, _ :: _, [], _, _, h => h.elim
def Small (P : Program) (t : TypeId) (d : DataW H) : Prop := ∀ n ∈ d.weights P t, n ≤ 140737488355328
theorem smalls {ts us : List TypeId} {ds gs : List (DataW H)} (h : (DataW.weightsEach P (ts ++ us) (ds ++ gs)).all (· ≤ reachBytes) = true) (j : Nat) (t : TypeId) (d : DataW H) (ht : ts[j]? = some t) (hd : ds[j]? = some d) : Small P t d := by
 intro n hn
 have h1 : (ts ++ us)[j]? = some t := by rw [List.getElem?_append_left (List.getElem?_eq_some_iff.1 ht).1]; exact ht
 have h2 : (ds ++ gs)[j]? = some d := by rw [List.getElem?_append_left (List.getElem?_eq_some_iff.1 hd).1]; exact hd
 have := List.all_eq_true.1 h n (DataW.weights_mem_each h1 h2 n hn)
 have h3 : reachBytes < 2 ^ 47 := reachBytes_lt
 simp at this
 omega
theorem law_post (hl : laidOutB P = true) {f : Func} {s : ChangeSpec} {tb : TypeId} {args : Array Value} {ds gs : List (DataW H)} {before : List MemPlace}
  (hvars : s.vars = []) (hres : f.resultTypes = #[tb]) (htb : P.underlying tb = some .bool) (hpar : ∀ t ∈ f.params.toList, P.readableRec t = true ∧ t < P.types.size)
  (hW : DataW.Whole enc P f.params.toList s.vars false W args.toList ds gs before)
  (h1 : (s.fn H (ds ++ gs)).results = [.lit (.bool true)]) (h2 : (s.fn H (ds ++ gs)).args = ds) (h3 : (s.fn H (ds ++ gs)).vars = [])
  (hb : Below W.heap.size W W') : s.post enc P f false true false false W args (.bool true) W' := by
 have hW' := hW
 obtain ⟨p, q, hA, hV, rfl, _, _⟩ := hW
 refine ⟨ds, gs, p ++ q, [], p, [], hW', ?_, ?_, ?_, hb.frame _, fun h => by cases h⟩
 ·rw [h1, hres]
  exact trodAll_mk1 (shut_bool htb _)
 ·rw [h2]; exact trodAll_below hl hb hpar hA
 ·rw [h3, hvars]; rfl
end
end
section
open Go.RowKit
def Keeps (D : Nat → Prop) (w w' : World) : Prop := ∀ b, D b → w'.heap[b]? = w.heap[b]?
theorem below_drewN {B : Nat} {a w : World} (h : Below B a w) (n : Nat) : Below B a (w.drewN n) := ⟨h.os, h.tape, h.output, h.size, h.block⟩
theorem own_at {B : Nat} {W w1 : World} (hb : Below B W w1) {b : Nat} (h : b < B) (hB : B ≤ W.heap.size := by first | exact Nat.le_refl _ | (simp; done) | (simp; omega)) :
  (∀ o, w1.cell? ⟨b, o, none⟩ = W.cell? ⟨b, o, none⟩) ∧ (∀ o, w1.frozen? ⟨b, o, none⟩ = W.frozen? ⟨b, o, none⟩) ∧ b < w1.heap.size :=
 ⟨fun o => hb.cell (p := ⟨b, o, none⟩) h, fun o => hb.frozen (p := ⟨b, o, none⟩) h, by have := hb.size; omega⟩
def Sl (w : World) (D : Nat → Prop) (k : Nat) (A : Option Addr) (n : Nat) (xs : List Value) : Prop :=
 xs.length = n * k ∧ (0 < n → ∃ b off, A = some ⟨b, off, none⟩ ∧ D b ∧ ∀ j u, xs[j]? = some u → w.cell? ⟨b, off + j, none⟩ = some u)
section
variable {w w' : World} {D D' : Nat → Prop} {k n : Nat} {A : Option Addr} {xs : List Value}
end
structure Grew (w w' : World) (v v' : Value) : Prop where
 by_ : w.grownBy w' v.ownBlock
 at_ : v'.ownBlock = v.ownBlock ∨ v'.ownBlock = some w.heap.size
structure Elem (P : Program) (t e size bytes : Nat) : Prop where
 ht : P.underlying t = some (.slice e)
 hi : (P.info? e).map (fun i => (i.zero.map (fun z => z.cells.size), i.size, i.bytes)) = some (some size, size, bytes)
 pos : 0 < size
section
variable {P : Program} {t e size bytes : Nat}
end
structure IsRep {α : Type} (R : World → (Nat → Prop) → Value → α → Prop) : Prop where
 keep : ∀ {w w' : World} {D : Nat → Prop} {v : Value} {x : α}, R w D v x → Keeps D w w' → R w' D v x
 mono : ∀ {w : World} {D D' : Nat → Prop} {v : Value} {x : α}, R w D v x → (∀ b, D b → D' b) → R w D' v x
end
section
open Go.RowKit
structure Flat (α : Type) where
 k : Nat
 enc : α → List Value
 len : ∀ x, (enc x).length = k
 one : ∀ x, ∀ u ∈ enc x, u.oneCell' = true
 pos : 0 < k
section
variable {α : Type} (E : Flat α)
theorem Flat.at_ (l : List α) {i : Nat} {x : α} (hx : l[i]? = some x) {j : Nat} (hj : j < E.k) : (l.flatMap E.enc)[i * E.k + j]? = (E.enc x)[j]? := by
 induction l generalizing i with
 | nil => simp at hx
 | cons y l ih =>
  rw [List.flatMap_cons]
  cases i with
  | zero =>
   simp only [List.getElem?_cons_zero, Option.some.injEq] at hx
   subst hx
   rw [Nat.zero_mul, Nat.zero_add, List.getElem?_append_left (by rw [E.len]; exact hj)]
  | succ i =>
   rw [List.getElem?_cons_succ] at hx
   rw [List.getElem?_append_right (by rw [E.len, Nat.succ_mul]; omega), E.len]
   rw [show (i + 1) * E.k + j - E.k = i * E.k + j by rw [Nat.succ_mul]; omega]
   exact ih hx
end
def RF {α : Type} (E : Flat α) (w : World) (D : Nat → Prop) (v : Value) (l : List α) : Prop :=
 ∃ A c, v = .slice A l.length c ∧ l.length ≤ c ∧ c ≤ maxLen ∧ (A = none → c = 0) ∧ Sl w D E.k A l.length (l.flatMap E.enc)
section
variable {α : Type} {E : Flat α} {w w' : World} {D D' : Nat → Prop} {v : Value} {l : List α} {A : Option Addr} {n c : Nat}
theorem RF.ex (h : RF E w D v l) : ∃ A c, v = .slice A l.length c ∧ RF E w D (.slice A l.length c) l := by
 have h' := h
 obtain ⟨A, c, rfl, _⟩ := h
 exact ⟨A, c, rfl, h'⟩
theorem RF.bound (h : RF E w D v l) : l.length ≤ maxLen := by
 obtain ⟨A, c, rfl, h1, h2, _⟩ := h
 omega
theorem RF.cap (h : RF E w D (.slice A n c) l) : n = l.length ∧ l.length ≤ c ∧ c ≤ maxLen ∧ (A = none → c = 0) := by
 obtain ⟨A', c0, h1, h2, h3, h4, h5⟩ := h
 injection h1 with e1 e2 e3
 subst e1 e3
 exact ⟨e2, h2, h3, h4⟩
theorem RF.sl (h : RF E w D (.slice A n c) l) : Sl w D E.k A n (l.flatMap E.enc) := by
 obtain ⟨A', c0, h1, h2, h3, h4, h5⟩ := h
 injection h1 with e1 e2 e3
 subst e1 e2
 exact h5
theorem RF.at_ (h : RF E w D (.slice A n c) l) {i : Nat} (hi : i < n) : ∃ b off x, A = some ⟨b, off, none⟩ ∧ D b ∧ l[i]? = some x ∧ ∀ j u, (E.enc x)[j]? = some u → w.cell? ⟨b, off + (i * E.k + j), none⟩ = some u := by
 have hl := h.cap.1
 have hx : l[i]? = some l[i] := List.getElem?_eq_getElem (by omega)
 obtain ⟨b, off, e, hb, hc⟩ := h.sl.2 (by omega)
 refine ⟨b, off, l[i], e, hb, hx, fun j u hu => hc _ u ?_⟩
 have hj : j < E.k := by rw [← E.len l[i]]; exact (List.getElem?_eq_some_iff.1 hu).1
 rw [E.at_ l hx hj]
 exact hu
end
end
section
open Go.RowKit
def bv (b : UInt8) : Value := .int .u8 b.toNat
def mk (l : List UInt8) : ByteArray := ⟨l.toArray⟩
theorem mk_bs (s : ByteArray) : mk (bs s) = s := Lib.mk_data s
theorem bs_inj {s t : ByteArray} (h : bs s = bs t) : s = t := by rw [← mk_bs s, ← mk_bs t, h]
theorem toList_inj {a b : ByteArray} (h : a.toList = b.toList) : a = b := bs_inj (by simpa [bs, ByteArray.toList_eq] using h)
theorem text_ne {a b : ByteArray} (h : a ≠ b) : (a.toList == b.toList) = false := beq_false_of_ne fun e => h (toList_inj e)
structure Fresh (w w' : World) (s : ByteArray) : Prop where
 below : Below w.heap.size w w'
 size : w'.heap.size = w.heap.size + 1
 cell : ∀ (j : Nat) (hj : j < s.size), w'.cell? ⟨w.heap.size, j, none⟩ = some (bv s[j])
 free : ∀ (j : Nat), j < s.size → w'.frozen? ⟨w.heap.size, j, none⟩ = false
end
section
open Go.RowKit Go.ChangeShapes Go.WideShapes Go.ChangeAt
section
variable {H : Type} {enc : TypeId × Value → H} {P : Program} {W : World}
end
end
section
open Go.RowKit
open Go.ChangeShapes Go.WideShapes Go.ChangeAt
def strF : Flat ByteArray := ⟨1, fun s => [.string s], fun _ => rfl, fun x u hu => by
 rw [List.mem_singleton] at hu
 subst hu
 rfl, by decide⟩
theorem str_cell {w : World} {D : Nat → Prop} {A : Option Addr} {n c : Nat} {l : List ByteArray} (h : RF strF w D (.slice A n c) l) {i : Nat} (hi : i < n) :
  ∃ b off x, A = some ⟨b, off, none⟩ ∧ D b ∧ l[i]? = some x ∧ w.cell? ⟨b, off + i, none⟩ = some (.string x) := by
 obtain ⟨b, off, x, e, hb, hx, hc⟩ := h.at_ hi
 refine ⟨b, off, x, e, hb, hx, ?_⟩
 have := hc 0 _ rfl
 simpa [strF] using this
end
section
open Go.RowKit
theorem alnum_yes {c : UInt8} (h : (97 ≤ (c.toNat : Int) ∧ (c.toNat : Int) ≤ 122) ∨ (65 ≤ (c.toNat : Int) ∧ (c.toNat : Int) ≤ 90) ∨ (48 ≤ (c.toNat : Int) ∧ (c.toNat : Int) ≤ 57)) : atomB c = true := by
 have : alnumB c = true := by unfold alnumB; simp; omega
 unfold atomB; rw [this]; rfl
theorem alnum_no {c : UInt8} (h : ¬ ((97 ≤ (c.toNat : Int) ∧ (c.toNat : Int) ≤ 122) ∨ (65 ≤ (c.toNat : Int) ∧ (c.toNat : Int) ≤ 90) ∨ (48 ≤ (c.toNat : Int) ∧ (c.toNat : Int) ≤ 57))) : atomB c = decide (0 ≤ Lib.indexByte marksL c) := by
 have : alnumB c = false := by
  cases ha : alnumB c
  ·rfl
  ·exfalso; unfold alnumB at ha; simp at ha; omega
 unfold atomB; rw [this]; rfl
theorem indexByte_mem (c : UInt8) : ∀ l : List UInt8, 0 ≤ Lib.indexByte l c ↔ c ∈ l
 | [] => by simp [Lib.indexByte]
 | b :: l => by
  have ih := indexByte_mem c l
  have hge := Lib.indexByte_ge l c
  by_cases h : b = c
  ·subst h; simp [Lib.indexByte]
  ·have h' : (b == c) = false := by simpa using h
   simp only [Lib.indexByte, h', List.mem_cons]
   by_cases hm : Lib.indexByte l c = -1
   ·rw [hm]
    have : c ∉ l := by rw [← ih]; omega
    simp [this, Ne.symm h]
   ·have h2 : (Lib.indexByte l c == -1) = false := by simpa using hm
    simp only [h2]
    have : c ∈ l := by rw [← ih]; omega
    simp [this]
    omega
def dottedB (s : ByteArray) : Bool := dotGo true (bs s)
def pieceOk (l : List UInt8) : Bool := !l.isEmpty && l.all atomB
theorem dotGo_plain : ∀ (d : Bool) (l : List UInt8), 46 ∉ l → dotGo d l = ((!d || !l.isEmpty) && l.all atomB)
 | d, [], _ => by simp [dotGo]
 | d, c :: r, h => by
  have h1 : c ≠ 46 := fun e => h (by simp [e])
  have ih := dotGo_plain false r (fun e => h (by simp [e]))
  simp [dotGo, h1, ih]
theorem dotGo_cut : ∀ (d : Bool) (a b : List UInt8), 46 ∉ a → dotGo d (a ++ 46 :: b) = ((!d || !a.isEmpty) && a.all atomB && dotGo true b)
 | d, [], b, _ => by simp [dotGo]
 | d, c :: a, b, h => by
  have h1 : c ≠ 46 := fun e => h (by simp [e])
  have ih := dotGo_cut false a b (fun e => h (by simp [e]))
  simp [dotGo, h1, ih, Bool.and_assoc]
theorem index_dot : ∀ l : List UInt8, (Lib.index l [46] = -1 ∧ 46 ∉ l) ∨ ∃ a b, l = a ++ 46 :: b ∧ 46 ∉ a ∧ Lib.index l [46] = a.length
 | [] => .inl ⟨by simp [Lib.index], by simp⟩
 | c :: l => by
  by_cases h : c = 46
  ·subst h
   exact .inr ⟨[], l, rfl, by simp, by simp [Lib.index, List.isPrefixOf]⟩
  ·have hp : ([46] : List UInt8).isPrefixOf (c :: l) = false := by simp [List.isPrefixOf, Ne.symm h]
   rcases index_dot l with ⟨h1, h2⟩ | ⟨a, b, h1, h2, h3⟩
   ·exact .inl ⟨by simp [Lib.index, hp, h1], by simp [h2, Ne.symm h]⟩
   ·refine .inr ⟨c :: a, b, by rw [h1]; rfl, by simp [h2, Ne.symm h], ?_⟩
    have h4 : (Lib.index l [46] == -1) = false := by rw [h3]; exact beq_false_of_ne (by omega)
    simp only [Lib.index, hp, h4, h3]
    simp
theorem split_ok : ∀ (k : Nat) (l : List UInt8), l.count 46 ≤ k → (Lib.splitK [46] 0 k l).all pieceOk = dotGo true l
 | 0, l, h => by
  have h0 : 46 ∉ l := List.count_eq_zero.1 (by omega)
  rw [dotGo_plain _ _ h0]
  simp [Lib.splitK, pieceOk]
 | k + 1, l, h => by
  rcases index_dot l with ⟨h1, h2⟩ | ⟨a, b, h1, h2, h3⟩
  ·rw [dotGo_plain _ _ h2]
   simp [Lib.splitK, h1, pieceOk]
  ·have h4 : (Lib.index l [46] == -1) = false := by rw [h3]; exact beq_false_of_ne (by omega)
   have hc : b.count 46 ≤ k := by rw [h1, List.count_append, List.count_cons] at h; simp at h; omega
   have ih := split_ok k b hc
   rw [Lib.splitK, if_neg (by rw [h4]; decide), h3, List.all_cons]
   simp only [Int.toNat_natCast, Nat.add_zero, List.length_singleton]
   have e1 : l.take a.length = a := by rw [h1, List.take_left]
   have e2 : l.drop (a.length + 1) = b := by
    rw [h1, ← List.drop_drop, List.drop_left]; rfl
   rw [e1, e2, ih, h1, dotGo_cut _ _ _ h2]
   simp [pieceOk]
def dotSep : ByteArray := ⟨#[46]⟩
def splitL (s : ByteArray) : List ByteArray := Lib.splitB dotSep 0 (Lib.countB s dotSep) s
theorem splitL_len (s : ByteArray) : (splitL s).length = Lib.countB s dotSep + 1 := Lib.splitB_all dotSep (by decide) 0 _ s rfl
theorem splitL_all (s : ByteArray) : (splitL s).all (fun x => pieceOk (bs x)) = dottedB s := by
 have h : ((splitL s).map (·.data.toList)).all pieceOk = dottedB s := by
  rw [splitL, Lib.splitB_data]
  exact split_ok _ _ (by
   have : Lib.countB s dotSep = Lib.count s.data.toList [46] := rfl
   rw [this, Lib.count_one]
   exact Nat.le_refl _)
 rw [← h, List.all_map]
 rfl
theorem splitB_small (sep : ByteArray) : ∀ (k : Nat) (s x : ByteArray), x ∈ Lib.splitB sep 0 k s → x.size ≤ s.size
 | 0, s, x, h => by simp [Lib.splitB] at h; rw [h]; exact Nat.le_refl _
 | k + 1, s, x, h => by
  rw [Lib.splitB] at h
  split at h
  ·simp at h; rw [h]; exact Nat.le_refl _
  ·rcases List.mem_cons.1 h with h | h
   ·rw [h, ByteArray.size_extract]; omega
   ·have := splitB_small sep k _ x h
    rw [ByteArray.size_extract] at this
    omega
theorem countB_small (s : ByteArray) : Lib.countB s dotSep ≤ s.size := Lib.countB_le dotSep (by decide) s.size s (Nat.le_refl _)
end
section
open Go.RowKit
theorem In_any (n lo hi : Int) (w : World) :
  Calls Tryz.prog 98 #[.int .i64 n, .int .i64 lo, .int .i64 hi] w fun e w' => e = .returned (.bool (decide (lo ≤ n) && decide (n ≤ hi))) ∧ w = w' := by
 go_enter Tryz.func98, Tryz.ntmps98
 go_wp2
 all_goals go_ret
 all_goals refine ⟨ret_bool ?_, rfl⟩
 all_goals simp <;> omega
theorem In_yes (n lo hi : Int) (w : World) (h1 : lo ≤ n) (h2 : n ≤ hi) :
  Calls Tryz.prog 98 #[.int .i64 n, .int .i64 lo, .int .i64 hi] w fun e w' => e = .returned (.bool true) ∧ w = w' :=
 (In_any n lo hi w).mono fun _ _ ⟨h, k⟩ => ⟨by rw [h]; simp [h1, h2], k⟩
theorem In_no (n lo hi : Int) (w : World) (h : n < lo ∨ hi < n) :
  Calls Tryz.prog 98 #[.int .i64 n, .int .i64 lo, .int .i64 hi] w fun e w' => e = .returned (.bool false) ∧ w = w' :=
 (In_any n lo hi w).mono fun _ _ ⟨h', k⟩ => ⟨by rw [h']; congr 1; congr 1; simp; omega, k⟩
end
section
open Go.RowKit Go.ChangeShapes Go.WideShapes Go.ChangeAt
section
variable {H : Type}
structure Tiny (d : DataW H) : Prop where
 le : Rows.uptoBulk d ≤ 1048576
end
end
section
open Go.RowKit
open Go.ChangeShapes Go.WideShapes Go.ChangeAt
section
variable {H : Type} {enc : TypeId × Value → H} {P : Program} {W : World}
def frzW (W : World) : Frz := fun b o => W.cell? ⟨b, o, none⟩
inductive RL {α : Type} (R : α → DataW H → Prop) : List α → DataW H → Prop where
 | nil (d : DataW H) (h : ∀ elems spare, d ≠ .slice elems spare) : RL R [] d
 | slice (l : List α) (elems spare : List (DataW H)) (hl : l.length = elems.length) (h : ∀ (i : Nat) (x : α) (z : DataW H), l[i]? = some x → elems[i]? = some z → R x z) : RL R l (.slice elems spare)
end
theorem law_calls {P : Program} {T : Tbl} {W : World} {f : FuncId} {args : List AV} {vs : Array Value} (c : PC P T f args (.d (.bool true))) (hT : ∀ g j x, (T g)[j]? = some x → ∃ u, frzW W g j = some u ∧ VD (frzW W) x u) (ha : SlR (gh0 W (frzW W)) args vs) :
  Calls P f vs W fun e W' => e = .returned (.bool true) ∧ Below W.heap.size W W' :=
 (c.run (frzW W) W vs (fun _ _ _ h => h) hT ha).mono fun e W' ⟨v, F', he, hb, _, _, _, hv⟩ => ⟨by cases hv with | d hd => rw [he, hd.bool_inv], hb⟩
end
section
open Go.RowKit
section
theorem cells_of_texts {H : Type} {enc : TypeId × Value → H} {P : Program} {w : World} {base : Nat} {sp : Nat → Bool} {held : Bool} {fuel : Nat} {t e : TypeId} {n : Nat} {cs : List Value} {zs : List (List UInt8)} {p : List MemPlace}
  (ht : P.underlying t = some (.array n e)) (he : P.underlying e = some .string) (hce : P.cellsOf e = 1) (hct : P.cellsOf t = n)
  (h : DataW.trod enc P w base sp held fuel t cs = some (.agg (zs.map fun z => .lit (.string z)), p)) : cs = zs.map fun z => Value.string (mk z) := by
 cases fuel with
 | zero => simp [DataW.trod] at h
 | succ fuel =>
  simp only [DataW.trod, ht, hce, hct, Nat.mul_one] at h
  split at h
  ·rename_i hl
   obtain ⟨xs, hm, hx⟩ := Option.map_eq_some_iff.1 h
   have hxs : xs.map (·.1) = zs.map fun z => (DataW.lit (.string z) : DataW H) := by
    have := congrArg Prod.fst hx
    simpa using this
   have hxl : xs.length = n := by simpa using Lib.mapM_length hm
   have hzl : zs.length = n := by
    have := congrArg List.length hxs
    simp at this
    omega
   apply List.ext_getElem?
   intro i
   by_cases hi : i < n
   ·obtain ⟨b, hb, hf⟩ := Lib.mapM_at hm i i (by simp [hi])
    obtain ⟨z, hc, hz, _⟩ := DataW.trod_string he hf
    have h1 : cs[i]? = some (.string z) := by
     have := congrArg (·[0]?) hc
     simpa [List.getElem?_take, List.getElem?_drop] using this
    have h2 : (xs.map (·.1))[i]? = some (DataW.lit (.string z.data.toList) : DataW H) := by simp [hb, hz]
    rw [hxs] at h2
    simp only [List.getElem?_map, Option.map_eq_some_iff, DataW.lit.injEq, Lit.string.injEq] at h2
    obtain ⟨z', hz', rfl⟩ := h2
    rw [h1, List.getElem?_map, hz']
    simp [mk]
   ·rw [List.getElem?_eq_none (by omega), List.getElem?_eq_none (by simp; omega)]
  ·cases h
def TextsAt (w : World) (g : Nat) (zs : List (List UInt8)) : Prop := ∀ (i : Nat) (z : List UInt8), zs[i]? = some z → w.cell? ⟨g, i, none⟩ = some (.string (mk z))
theorem laid_row {P : Program} {W : World} {name : String} {d : DataW Unit} : ∀ {l : List (String × DataW Unit)} {ps : List MemPlace}, DataW.LaidVars P W l ps → (name, d) ∈ l →
  ∃ g t cs fuel p, P.globalNamed name = some g ∧ (P.globals[g]?).map (·.type) = some t ∧ W.var? P name = some cs ∧ DataW.trod (fun _ => ()) P W 0 (fun _ => true) false fuel t cs.toList = some (d, p)
 | (n, d') :: r, ps, h, hm => by
  obtain ⟨g, t, cs, fuel, p, q, h1, h2, h3, h4, h5, _⟩ := h
  rcases List.mem_cons.1 hm with e | e
  ·injection e with e1 e2
   subst e1 e2
   exact ⟨g, t, cs, fuel, p, h1, h2, h3, h4⟩
  ·exact laid_row h5 e
 | [], _, _, hm => by cases hm
theorem laidMetH_plain' (P : Program) (laid : List (String × DataW Unit)) (w : World) (h : (laid.all fun x => x.2.handleName?.isNone) = true) : laidMetH P laid w = laidMet P laid w := by
 have e : (laid.filter fun x => x.2.handleName?.isSome) = [] := by
  rw [List.filter_eq_nil_iff]
  intro x hx hs
  have := List.all_eq_true.1 h x hx
  cases hn : x.2.handleName? with
  | none => rw [hn] at hs; cases hs
  | some s => rw [hn] at this; cases this
 unfold laidMetH
 rw [e]
theorem texts_of_laid {P : Program} {W : World} {name : String} {zs : List (List UInt8)} {l : List (String × DataW Unit)} {g : Nat} {t e : TypeId} {n : Nat}
  (hg : P.globalNamed name = some g) (hty : (P.globals[g]?).map (·.type) = some t) (ht : P.underlying t = some (.array n e)) (he : P.underlying e = some .string) (hce : P.cellsOf e = 1) (hct : P.cellsOf t = n)
  (hm : (name, .agg (zs.map fun z => .lit (.string z))) ∈ l) (hp : (l.all fun x => x.2.handleName?.isNone) = true) (h : laidMetH P l W) : TextsAt W g zs ∧ g < W.heap.size := by
 rw [laidMetH_plain' P l W hp] at h
 obtain ⟨ps, hl, _⟩ := h
 obtain ⟨g', t', cs, fuel, p, hg', ht', hvar, hd⟩ := laid_row hl hm
 obtain rfl := Option.some.inj (hg.symm.trans hg')
 obtain rfl := Option.some.inj (hty.symm.trans ht')
 have hc := cells_of_texts ht he hce hct hd
 have hcell : TextsAt W g zs := by
  intro i z hz
  rw [World.var?_cell hg hvar i, ← Array.getElem?_toList, hc, List.getElem?_map, hz]
  rfl
 refine ⟨hcell, ?_⟩
 unfold World.var? at hvar
 rw [hg] at hvar
 cases hh : W.heap[g]? with
 | none => simp [hh] at hvar
 | some o => exact (Array.getElem?_eq_some_iff.1 hh).1
end
end
section
open Go.RowKit
def flatC : Nat → DataW Unit → List Value
 | 0, _ => []
 | n + 1, .lit (.int k i) => [.int k i]
 | n + 1, .lit (.bool b) => [.bool b]
 | n + 1, .lit (.string l) => [.string ⟨l.toArray⟩]
 | n + 1, .agg ds => ds.flatMap (flatC n)
 | n + 1, _ => []
def layAt (w : World) (g : Nat) (d : DataW Unit) : World :=
 { w with heap := w.heap.modify g fun
   | .cells _ t frozen => .cells (flatC 4 d).toArray t frozen
   | o => o }
end
end Go.Proofs.YtidldcfpmehpiaaGreatDoor

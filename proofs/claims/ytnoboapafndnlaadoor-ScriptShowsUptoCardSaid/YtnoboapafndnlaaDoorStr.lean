/- Texts and bytes: the two conversions as steps of the walk. -/
import Derived.Test.YtnoboapafndnlaaDoorMem
import Derived.Lib.ConvBytes
import Derived.Laws.Cells
namespace Go.Proofs.YtnoboapafndnlaaDoor
open Go.RowKit
set_option linter.unusedSimpArgs false
set_option linter.unusedVariables false

/-- a byte as a cell -/
def bv (b : UInt8) : Value := .int .u8 b.toNat
/-- the text of bytes -/
def mk (l : List UInt8) : ByteArray := ⟨l.toArray⟩
theorem mk_bs (s : ByteArray) : mk (bs s) = s := Lib.mk_data s
theorem bs_mk (l : List UInt8) : bs (mk l) = l := by simp [bs, mk]
theorem mk_size (l : List UInt8) : (mk l).size = l.length := by simp [mk, ByteArray.size]
theorem bs_inj {s t : ByteArray} (h : bs s = bs t) : s = t := by rw [← mk_bs s, ← mk_bs t, h]
theorem toList_inj {a b : ByteArray} (h : a.toList = b.toList) : a = b := bs_inj (by simpa [bs, ByteArray.toList_eq] using h)
theorem text_ne {a b : ByteArray} (h : a ≠ b) : (a.toList == b.toList) = false := beq_false_of_ne fun e => h (toList_inj e)

theorem foldl_push (l : List UInt8) : ∀ acc : ByteArray, (l.map fun b => (b.toNat : Int)).foldl (fun r n => r.push (UInt8.ofNat n.toNat)) acc = mk (bs acc ++ l) := by
  induction l with
  | nil => intro acc; simp [mk_bs]
  | cons b l ih =>
    intro acc
    simp only [List.map_cons, List.foldl_cons, Int.toNat_natCast, ih]
    congr 1
    simp [bs, ByteArray.push]

theorem run_string_of {P : Program} {w : World} {D : Nat → Prop} {A : Option Addr} {c : Nat} {l : List UInt8} (src dst e : TypeId)
    (hs : P.underlying src = some (.slice e)) (he : P.underlying e = some (.int .u8)) (hd : P.underlying dst = some .string) {n : Nat} (h : Sl w D 1 A n (l.map bv)) :
    (convert src dst (.slice A n c)).run P w = .ok (.string (mk l)) w := by
  have hl : l.length = n := by simpa using h.1
  subst hl
  rw [run_convert_bytes_string w src dst e A l.length c hs he hd]
  rcases A with _ | a
  · have : l = [] := by
      rcases l with _ | ⟨x, l⟩
      · rfl
      · obtain ⟨_, _, e', _⟩ := h.2 (by simp)
        cases e'
    subst this
    simp [Conv.bytesToString, mk]
    rfl
  · have hload : (loadCells a l.length).run P w = .ok ((l.map fun b => (b.toNat : Int)).map (Value.int .u8)).toArray w := by
      have := run_loadCells_list (P := P) (w := w) a (l.map bv) (fun j v hv => by
        obtain ⟨b, off, e', _, hc⟩ := h.cells hv
        injection e' with e'
        subst e'
        by_cases hj : j = 0
        · subst hj; simpa [Addr.add] using hc
        · simpa [Addr.add, hj] using hc)
      have e : (l.map fun b => (b.toNat : Int)).map (Value.int .u8) = l.map bv := by rw [List.map_map]; rfl
      rw [e]
      simpa using this
    rw [run_bytesToString w a l.length c _ hload, foldl_push]
    simp [bs, ByteArray.empty, ByteArray.emptyWithCapacity]
    rfl

/-- 'string(b)' -/
theorem wpList_string_of {P : Program} {ops : Array Oper} {rest : List Oper} {o : Oper} {a : Act} {Q : Exit → Act → World → Prop} {w : World} (hgd : Region.wanted o (yielded ops a.tmps) = true) (x : Operand) (src dst e : TypeId)
    (ho : o.op = .convert src dst x) (hs : P.underlying src = some (.slice e)) (he : P.underlying e = some (.int .u8)) (hd : P.underlying dst = some .string)
    {D : Nat → Prop} {A : Option Addr} {n c : Nat} {l : List UInt8} (hx : a.eval x = .slice A n c) (h : Sl w D 1 A n (l.map bv))
    (k : wpList P ops Q rest (a.put o.dst (.string (mk l))) w) : wpList P ops Q (o :: rest) a w :=
  wpList_by hgd fun _ hK => by
    unfold Oper.wp execOp
    simp only [ho, hx, Sem.run_bind, run_string_of (c := c) src dst e hs he hd h, Result.andThen_ok]
    exact hK _ _ k

/-- '[]byte(s)': the bytes lie in a new block, may be written, and nothing else has turned -/
structure Fresh (w w' : World) (s : ByteArray) : Prop where
  below : Below w.heap.size w w'
  size : w'.heap.size = w.heap.size + 1
  cell : ∀ (j : Nat) (hj : j < s.size), w'.cell? ⟨w.heap.size, j, none⟩ = some (bv s[j])
  free : ∀ (j : Nat), j < s.size → w'.frozen? ⟨w.heap.size, j, none⟩ = false

theorem fresh_bytes (w : World) (e : TypeId) (s : ByteArray) : Fresh w (Lib.bytesWorld w e s) s where
  below := by
    refine ⟨?_, ?_, ?_, ?_, fun k hk => Lib.bytesWorld_at_old w e s k hk⟩
    · simp only [Lib.bytesWorld, World.freeze]; split <;> rfl
    · simp only [Lib.bytesWorld, World.freeze]; split <;> rfl
    · simp only [Lib.bytesWorld, World.freeze]; split <;> rfl
    · rw [Lib.bytesWorld_size]; omega
  size := Lib.bytesWorld_size w e s
  cell := fun j hj => by
    rw [Lib.bytesWorld_cell w e s j hj]
    have := bs_get s j hj
    unfold bs at this
    simp [bv, List.getD, this]
  free := fun j hj => by
    simp only [World.frozen?, Lib.bytesWorld_at_new]
    have : s.size ≤ (Lib.bytesCells w e s).size := by
      simp only [Lib.bytesCells, Array.size_append, Array.size_map]
      exact Nat.le_add_right s.data.size _
    simp
    omega

theorem wpList_bytes_of {P : Program} {ops : Array Oper} {rest : List Oper} {o : Oper} {a : Act} {Q : Exit → Act → World → Prop} {w : World} (hgd : Region.wanted o (yielded ops a.tmps) = true) (x : Operand) (src dst e : TypeId)
    (ho : o.op = .convert src dst x) (hs : P.underlying src = some .string) (hd : P.underlying dst = some (.slice e)) (he : P.underlying e = some (.int .u8))
    {s : ByteArray} (hx : a.eval x = .string s)
    (k : ∀ c w', Fresh w w' s → wpList P ops Q rest (a.put o.dst (.slice (some ⟨w.heap.size, 0, none⟩) s.size c)) w') : wpList P ops Q (o :: rest) a w :=
  wpList_by hgd fun _ hK => by
    unfold Oper.wp execOp
    simp only [ho, hx, Sem.run_bind, Lib.run_convert_string_bytes w src dst e s hs hd he, Result.andThen_ok]
    exact hK _ _ (k _ _ (fresh_bytes w e s))

/-- cells of one block as a slice that reads -/
theorem Sl.of_cells {w : World} {D : Nat → Prop} {b off n : Nat} {xs : List Value} (hD : D b) (hn : xs.length = n) (h : ∀ j u, xs[j]? = some u → w.cell? ⟨b, off + j, none⟩ = some u) : Sl w D 1 (some ⟨b, off, none⟩) n xs :=
  ⟨by omega, fun _ => ⟨b, off, rfl, hD, h⟩⟩
end Go.Proofs.YtnoboapafndnlaaDoor

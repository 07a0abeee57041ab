/- Arguments opened: a []byte; a tape. -/
import Derived.Test.YtdofgjpgppaghaaTapeS
import Derived.Test.YtdofgjpgppaghaaRow
import Derived.Lib.SmallJoins
namespace Go.Proofs.Ytdofgjpgppaghaa
open Go.RowKit Go.ChangeShapes Go.WideShapes Go.ChangeAt
set_option linter.unusedSimpArgs false
set_option linter.unusedVariables false
open Go.Joins
section
variable {H : Type} {enc : TypeId × Value → H} {W : World}
set_option maxRecDepth 20000 in
theorem open_bytes {fuel : Nat} {v : Value} {y : DataW H × List MemPlace} (h : DataW.trod enc Try.prog W 0 (fun _ => true) true fuel 30 [v] = some y) (hs : Small Try.prog 30 y.1) :
    ∃ l : List UInt8, RB W (· < W.heap.size) v l ∧ l.length ≤ 140737488355328 := by
  rcases open_ints Try.underlying30 Try.underlying5 (by kernel_rfl) h with ⟨hv, hx⟩ | ⟨a, len, cap, zs, hv, _, hl, hm, hz, hx, hc, hwz⟩
  · injection hv with hv
    subst hv
    exact ⟨[], RB_nil _ _, by simp⟩
  · injection hv with hv
    subst hv
    have hzl : zs.length = cap := by simpa using hz
    have hlen : ((zs.take len).map fun z => UInt8.ofNat z.toNat).length = len := by simp; omega
    have hget : ∀ j, j < len → ((zs.take len).map fun z => UInt8.ofNat z.toNat)[j]? = some (UInt8.ofNat (zs.getD j 0).toNat) ∧ bv (UInt8.ofNat (zs.getD j 0).toNat) = .int .u8 (zs.getD j 0) := by
      intro j hj
      have hjz : j < zs.length := by omega
      have hw := hwz zs[j] (List.getElem_mem hjz)
      have hb : 0 ≤ zs[j] ∧ zs[j] ≤ 255 := by simpa [Lit.wf, IntKind.min, IntKind.max, IntKind.signed, IntKind.bits] using hw
      have hg : zs.getD j 0 = zs[j] := by simp [List.getD, hjz]
      refine ⟨by simp [hj, hjz, List.getD], ?_⟩
      rw [hg]
      unfold bv
      congr 1
      rw [UInt8.toNat_ofNat']
      omega
    rw [hx] at hs
    have hr := Small.row Try.underlying30 hs
    rw [show Try.prog.bytesOf 5 = 1 by kernel_rfl] at hr
    simp only [lits, List.length_map, List.length_take, List.length_drop] at hr
    refine ⟨(zs.take len).map fun z => UInt8.ofNat z.toNat, ⟨some a, cap, by rw [hlen], by rw [hlen]; exact hl, hm, by simp, ⟨by simp, fun hn => ?_⟩⟩, by rw [hlen]; omega⟩
    rw [hlen] at hn
    have h0 := hc 0 (by omega)
    obtain ⟨b, off, sp⟩ := a
    have hsp : sp = none := by simpa [Addr.add] using World.cell?_spot h0
    subst hsp
    refine ⟨b, off, rfl, ?_, fun j u hu => ?_⟩
    · simpa [Addr.add] using World.block_lt_of_cell? W _ h0
    · rw [List.getElem?_map, Option.map_eq_some_iff] at hu
      obtain ⟨x, hx', rfl⟩ := hu
      have hj : j < len := by rw [← hlen]; exact (List.getElem?_eq_some_iff.1 hx').1
      rw [(hget j hj).1] at hx'
      injection hx' with hx'
      subst hx'
      rw [(hget j hj).2]
      have := hc j (by omega)
      by_cases h0 : j = 0
      · subst h0; simpa [Addr.add] using this
      · simpa [Addr.add, h0] using this
end
end Go.Proofs.Ytdofgjpgppaghaa

/- The law GlobMatches: P1.2. -/
import Derived.Test.YtdofgjpgppaghaaGm7
import Derived.Test.YtdofgjpgppaghaaRow
namespace Go.Proofs.Ytdofgjpgppaghaa
open Go.RowKit Go.ChangeShapes Go.WideShapes Go.ChangeAt
set_option linter.unusedSimpArgs false
set_option linter.unusedVariables false
open Go.ChangeShapes Go.WideShapes Go.ChangeAt
open Go.ChangeMaps (open_string)
set_option maxRecDepth 20000 in
theorem globMatches_walk (kind : Int) (s p : ByteArray) (w : World) (hs : s.size ≤ maxLen) (hp : p.size ≤ maxLen) (h0 : Lib0 w) :
    Calls Try.prog 11 #[.int .i64 kind, .string s, .string p] w fun e w' => e = .returned (.bool true) ∧ Below w.heap.size w w' := by
  have HC := Lib.hid (fun w h => Match_any kind s p w hs hp h)
  have HA := Lib.hid (fun w => MatchOf_any kind s p w hs hp)
  unfold Mat at HC HA
  generalize matchB kind s p = b at HC HA
  generalize matchE kind s p = f at HC HA
  have HL := Lib.hid h0
  clear h0
  go_enter Try.func11, Try.ntmps11
  go_wp2_with fail
  refine Calls.mono (HC.out _ HL.out) ?_
  rintro e w1 ⟨rfl, hb1⟩
  go_wp2_with fail
  refine Calls.mono (HA.out _) ?_
  rintro e w2 ⟨rfl, hb2⟩
  go_wp2_with fail
  go_ret
  exact ⟨by simp, hb1.trans (hb2.mono hb1.size)⟩
theorem globMatches_run {H : Type} {enc : TypeId × Value → H} (W : World) (base : Nat) (v0 v1 v2 : Value) (d0 : DataW H) (p0 : List MemPlace) (d1 : DataW H) (p1 : List MemPlace) (d2 : DataW H) (p2 : List MemPlace)
    (k0 : Value.okWide Try.prog W .any base 3 v0) (h0 : DataW.Trod enc Try.prog W 0 (fun _ => true) true 3 v0 d0 p0)
    (k1 : Value.okWide Try.prog W .any base 9 v1) (h1 : DataW.Trod enc Try.prog W 0 (fun _ => true) true 9 v1 d1 p1)
    (k2 : Value.okWide Try.prog W .any base 9 v2) (h2 : DataW.Trod enc Try.prog W 0 (fun _ => true) true 9 v2 d2 p2)
    (s0 : Small Try.prog 3 d0) (s1 : Small Try.prog 9 d1) (s2 : Small Try.prog 9 d2) (hL : laidMetH Try.prog Rows.globMatchesRow.laid W) (hsh : W.ShapedOpen Try.prog) :
    Calls Try.prog 11 #[v0, v1, v2] W fun e W' => e = .returned (.bool true) ∧ Below W.heap.size W W' := by
  obtain ⟨n, rfl, rfl, rfl, hn⟩ := open_int Try.underlying3 k0 h0
  obtain ⟨s, rfl, rfl, rfl, hs⟩ := open_string Try.underlying9 k1 h1
  obtain ⟨p, rfl, rfl, rfl, hp⟩ := open_string Try.underlying9 k2 h2
  exact globMatches_walk n s p W hs hp (Lib0.open_ hsh)
end Go.Proofs.Ytdofgjpgppaghaa

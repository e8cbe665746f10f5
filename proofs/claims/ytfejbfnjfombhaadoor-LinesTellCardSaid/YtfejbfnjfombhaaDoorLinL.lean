/- A line that came in, opened. -/
import Derived.Test.YtfejbfnjfombhaaDoorLinJ
import Derived.ChangeArms
import Derived.OpenShut
namespace Go.Proofs.YtfejbfnjfombhaaDoor.LinL
open Go.RowKit Go.Lib Go.ChangeShapes Go.Proofs.YtfejbfnjfombhaaDoor.LinB
set_option linter.unusedVariables false
theorem four {α : Type} (cs : List α) (h : cs.length = 4) : cs = (cs.drop 0).take 1 ++ (cs.drop 1).take 1 ++ (cs.drop 2).take 1 ++ (cs.drop 3).take 1 := by
  match cs, h with
  | [a, b, c, d], _ => rfl
section
variable {H : Type} {enc : TypeId × Value → H} {w : World} {base : Nat} {spare : Nat → Bool} {held : Bool} {fuel : Nat} {cs : List Value} {x : DataW H × List MemPlace}
theorem open_line (h : DataW.trod enc Tryd.prog w base spare held fuel 24 cs = some x) : ∃ l : Ln, cs = [.int .i64 l.verb, .string l.name, .int .i64 l.n, .int .u32 l.till] ∧ (-9223372036854775808 ≤ l.verb ∧ l.verb ≤ 9223372036854775807) ∧ (-9223372036854775808 ≤ l.n ∧ l.n ≤ 9223372036854775807) ∧ (0 ≤ l.till ∧ l.till ≤ 4294967295) := by
  obtain ⟨xs, m, _, _, hl, hxl, hel⟩ := DataW.trod_struct Tryd.underlying24 h
  have tc24 : Tryd.prog.cellsOf 24 = 4 := by kernel_rfl
  rw [tc24] at hl
  have c3 : Tryd.prog.cellsOf 3 = 1 := by kernel_rfl
  have c9 : Tryd.prog.cellsOf 9 = 1 := by kernel_rfl
  have c22 : Tryd.prog.cellsOf 22 = 1 := by kernel_rfl
  have e0 : DataW.trod enc Tryd.prog w base spare held m 3 ((cs.drop 0).take (Tryd.prog.cellsOf 3)) = xs[0]? := hel 0 _ rfl
  have e1 : DataW.trod enc Tryd.prog w base spare held m 9 ((cs.drop 1).take (Tryd.prog.cellsOf 9)) = xs[1]? := hel 1 _ rfl
  have e2 : DataW.trod enc Tryd.prog w base spare held m 3 ((cs.drop 2).take (Tryd.prog.cellsOf 3)) = xs[2]? := hel 2 _ rfl
  have e3 : DataW.trod enc Tryd.prog w base spare held m 22 ((cs.drop 3).take (Tryd.prog.cellsOf 22)) = xs[3]? := hel 3 _ rfl
  have hxl' : xs.length = 4 := hxl
  rw [c3] at e0 e2
  rw [c9] at e1
  rw [c22] at e3
  rw [List.getElem?_eq_getElem (by omega)] at e0 e1 e2 e3
  obtain ⟨k, h0, _, wk⟩ := DataW.trod_int Tryd.underlying3 e0
  obtain ⟨name, h1, _, hs⟩ := DataW.trod_string Tryd.underlying9 e1
  obtain ⟨n, h2, _, wn⟩ := DataW.trod_int Tryd.underlying3 e2
  obtain ⟨t, h3, _, wt⟩ := DataW.trod_int Tryd.underlying22 e3
  have a0 := bounds_i64 wk
  have a1 := bounds_i64 wn
  have a2 := bounds_u32 wt
  refine ⟨⟨k, name, n, t⟩, ?_, a0, a1, a2⟩
  rw [four cs hl, h0, h1, h2, h3]
  rfl
end
end Go.Proofs.YtfejbfnjfombhaaDoor.LinL

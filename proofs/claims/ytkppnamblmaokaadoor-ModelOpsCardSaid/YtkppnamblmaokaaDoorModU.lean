/- How a step that came in reads. -/
import Derived.Test.YtkppnamblmaokaaDoorModT
import Derived.ProofKit
import Derived.OpenShut
namespace Go.Proofs.YtkppnamblmaokaaDoor.ModU
open Go.ChangeShapes Go.WideShapes Go.ChangeAt Go.RowKit Go.Proofs.YtkppnamblmaokaaDoor.ModF
set_option linter.unusedVariables false
set_option linter.unusedSimpArgs false

theorem tc32 : Tryd.prog.cellsOf 32 = 32 := by kernel_rfl
theorem tc5 : Tryd.prog.cellsOf 5 = 1 := by kernel_rfl
theorem tc34 : Tryd.prog.cellsOf 34 = 35 := by kernel_rfl
theorem four : ∀ cs : List Value, cs = cs.take 1 ++ ((cs.drop 1).take 1 ++ ((cs.drop 2).take 1 ++ cs.drop 3))
  | [] => rfl
  | [_] => rfl
  | [_, _] => rfl
  | _ :: _ :: _ :: _ => rfl
section
variable {H : Type} {enc : TypeId × Value → H} {w : World} {base : Nat} {spare : Nat → Bool} {held : Bool} {fuel : Nat} {cs : List Value} {x : DataW H × List MemPlace}
theorem open_blk (h : DataW.trod enc Tryd.prog w base spare held fuel 32 cs = some x) : ∃ d : List Int, cs = d.map (Value.int .u8) ∧ d.length = 32 := by
  obtain ⟨xs, m, _, _, hl, hxl, hel⟩ := DataW.trod_array Tryd.underlying32 h
  rw [tc32] at hl
  have hall : ∀ i, ∃ z : Int, i < 32 → cs[i]? = some (.int .u8 z) := by
    intro i
    by_cases hi : i < 32
    · have e := hel i hi
      rw [tc5, Nat.mul_one, List.getElem?_eq_getElem (by omega)] at e
      obtain ⟨z, ez, _, _⟩ := DataW.trod_int Tryd.underlying5 e
      refine ⟨z, fun _ => ?_⟩
      have h0 : ((cs.drop i).take 1)[0]? = some (.int .u8 z) := by rw [ez]; rfl
      simpa using h0
    · exact ⟨0, fun h => absurd h hi⟩
  refine ⟨(List.range 32).map fun i => Classical.choose (hall i), ?_, by simp⟩
  apply List.ext_getElem?
  intro i
  by_cases hi : i < 32
  · rw [Classical.choose_spec (hall i) hi]
    simp [hi]
  · rw [List.getElem?_eq_none (by omega), List.getElem?_eq_none (by simp; omega)]
/-- A step: its kind, its name, its number, its block. -/
theorem open_step (h : DataW.trod enc Tryd.prog w base spare held fuel 34 cs = some x) : ∃ (k n : Int) (name : ByteArray) (d : List Int), cs = [.int .i64 k, .string name, .int .i64 n] ++ d.map (Value.int .u8) ∧ d.length = 32 ∧ name.size ≤ maxLen ∧ (Lit.int .i64 k).wf = true ∧ (Lit.int .i64 n).wf = true := by
  obtain ⟨xs, m, _, _, hl, hxl, hel⟩ := DataW.trod_struct Tryd.underlying34 h
  rw [tc34] at hl
  have c3 : Tryd.prog.cellsOf 3 = 1 := by kernel_rfl
  have c9 : Tryd.prog.cellsOf 9 = 1 := by kernel_rfl
  have e0 : DataW.trod enc Tryd.prog w base spare held m 3 ((cs.drop 0).take (Tryd.prog.cellsOf 3)) = xs[0]? := hel 0 _ rfl
  have e1 : DataW.trod enc Tryd.prog w base spare held m 9 ((cs.drop 1).take (Tryd.prog.cellsOf 9)) = xs[1]? := hel 1 _ rfl
  have e2 : DataW.trod enc Tryd.prog w base spare held m 3 ((cs.drop 2).take (Tryd.prog.cellsOf 3)) = xs[2]? := hel 2 _ rfl
  have e3 : DataW.trod enc Tryd.prog w base spare held m 32 ((cs.drop 3).take (Tryd.prog.cellsOf 32)) = xs[3]? := hel 3 _ rfl
  have hxl' : xs.length = 4 := hxl
  rw [c3, List.drop_zero] at e0
  rw [c9] at e1
  rw [c3] at e2
  rw [tc32] at e3
  rw [List.getElem?_eq_getElem (by omega)] at e0 e1 e2 e3
  obtain ⟨k, h0, _, wk⟩ := DataW.trod_int Tryd.underlying3 e0
  obtain ⟨name, h1, _, hs⟩ := DataW.trod_string Tryd.underlying9 e1
  obtain ⟨n, h2, _, wn⟩ := DataW.trod_int Tryd.underlying3 e2
  obtain ⟨d, h3, hd⟩ := open_blk e3
  refine ⟨k, n, name, d, ?_, hd, hs, wk, wn⟩
  have hs3 : ((cs.drop 3).take 32) = cs.drop 3 := List.take_of_length_le (by simp; omega)
  rw [hs3] at h3
  rw [four cs, h0, h1, h2, h3]
  rfl
end
end Go.Proofs.YtkppnamblmaokaaDoor.ModU

/- Which plays are fair. -/
import Derived.Test.YtkppnamblmaokaaDoorModP
namespace Go.Proofs.YtkppnamblmaokaaDoor.ModQ
open Go.RowKit Go.Proofs.YtkppnamblmaokaaDoorW.PrintWords Go.Proofs.YtkppnamblmaokaaDoorW.PrintLast Go.Proofs.YtkppnamblmaokaaDoorW.PrintMore Go.Proofs.YtkppnamblmaokaaDoor.ModA Go.Proofs.YtkppnamblmaokaaDoor.ModB Go.Proofs.YtkppnamblmaokaaDoor.ModC Go.Proofs.YtkppnamblmaokaaDoor.ModF Go.Proofs.YtkppnamblmaokaaDoor.ModG
set_option linter.unusedVariables false
set_option linter.unusedSimpArgs false

def fairB (ns : List ByteArray) : Bool := (ns.all fun x => decide (x.size ≤ 100)) && decide (ns.length ≤ 150)
theorem fair_no (ns : List ByteArray) (i : Nat) (x : ByteArray) (hx : ns[i]? = some x) (h : 100 < x.size) : fairB ns = false := by
  unfold fairB
  have : (ns.all fun x => decide (x.size ≤ 100)) = false := by
    rw [List.all_eq_false]
    exact ⟨x, List.mem_of_getElem? hx, by simp; omega⟩
  rw [this, Bool.false_and]
theorem fair_yes (ns : List ByteArray) (h : ∀ j x, j < ns.length → ns[j]? = some x → x.size ≤ 100) : fairB ns = decide (ns.length ≤ 150) := by
  unfold fairB
  have : (ns.all fun x => decide (x.size ≤ 100)) = true := by
    rw [List.all_eq_true]
    intro x hx
    obtain ⟨j, hj⟩ := List.getElem?_of_mem hx
    simpa using h j x (List.getElem?_eq_some_iff.1 hj).1 hj
  rw [this, Bool.true_and]

set_option maxHeartbeats 1000000 in
set_option maxRecDepth 100000 in
theorem fair_some (ga off cap : Nat) (ns : List ByteArray) (w : World) (h1 : ns.length ≤ cap) (h2 : cap ≤ maxLen)
    (hc : ∀ i x, ns[i]? = some x → w.cell? ⟨ga, off + i * 35 + 1, none⟩ = some (.string x)) :
    Calls Tryd.prog 7 #[.slice (some ⟨ga, off, none⟩) ns.length cap] w fun e w' => e = .returned (.bool (fairB ns)) ∧ Below w.heap.size w w' := by
  have HC := Aside0.mk hc
  have FN := Aside0.mk (fair_no ns)
  have FY := Aside0.mk (fair_yes ns)
  have BL := Aside0.mk (Below.refl w.heap.size w)
  have GX : Aside0 (∀ i, i < ns.length → ∃ x, ns[i]? = some x) := ⟨fun i hi => ⟨ns[i], by simp⟩⟩
  clear hc
  generalize hlen : ns.length = len at *
  generalize hfb : fairB ns = fb at *
  clear hfb
  have hmx : len ≤ 9223372036854775807 := by unfold maxLen at h2; omega
  clear hlen
  go_enter Tryd.func7, Tryd.ntmps7
  go_wp2_with fail
  go_loopw [3] (fun iv wr => ∃ i : Nat, i ≤ len ∧ iv = .int .i64 i ∧ Aside0 (∀ j x, j < i → ns[j]? = some x → x.size ≤ 100) ∧ Aside0 (Below w.heap.size w wr)) (fun iv _ => len - (intOf iv).toNat)
  case atStart => exact ⟨0, by omega, rfl, ⟨fun j x hj => by omega⟩, BL⟩
  case round =>
    clear BL
    obtain ⟨i, hi, rfl, HJ, BL⟩ := hrel
    by_cases hlt : i < len
    · obtain ⟨x, hx⟩ := GX.out i hlt
      have c0 := pw_cell_below BL.out (HC.out i x hx)
      have HX := Aside0.mk hx
      clear hx
      by_cases hs : 100 < x.size
      · have HF := Aside0.mk (FN.out i x HX.out hs)
        have hs' : ((x.size : Int) > 100) := by omega
        go_wp2_with fail
        go_ret
        exact ⟨by rw [HF.out]; rfl, BL.out⟩
      · have hs' : ¬ ((x.size : Int) > 100) := by omega
        have HN : Aside0 (∀ j y, j < i + 1 → ns[j]? = some y → y.size ≤ 100) := ⟨fun j y hj hy => by
          by_cases e : j = i
          · subst e
            rw [HX.out] at hy
            injection hy with hy
            subst hy
            omega
          · exact HJ.out j y (by omega) hy⟩
        go_wp2_with fail
        go_roundw
        case measure => simp [intOf]; omega
        case rel => exact ⟨i + 1, by omega, by go_num, HN, BL⟩
    · have : i = len := by omega
      subst this
      have HF := Aside0.mk (FY.out HJ.out)
      go_wp2_with fail
      go_ret
      have hd : decide (i ≤ 150) = decide ((i : Int) ≤ 150) := decide_eq_decide.2 (by omega)
      exact ⟨by rw [HF.out, hd]; rfl, BL.out⟩
theorem fair_none (A : Option Addr) (cap : Nat) (w : World) : Calls Tryd.prog 7 #[.slice A 0 cap] w fun e w' => e = .returned (.bool true) ∧ Below w.heap.size w w' := by
  have BL := Aside0.mk (Below.refl w.heap.size w)
  go_enter Tryd.func7, Tryd.ntmps7
  go_wp2_with fail
  go_loopw [3] (fun iv wr => iv = .int .i64 0 ∧ Aside0 (Below w.heap.size w wr)) (fun iv _ => 0)
  case atStart => exact ⟨rfl, BL⟩
  case round =>
    clear BL
    obtain ⟨rfl, BL⟩ := hrel
    go_wp2_with fail
    go_ret
    exact ⟨rfl, BL.out⟩

end Go.Proofs.YtkppnamblmaokaaDoor.ModQ

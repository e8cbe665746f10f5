/- For every place, every two ticks and every k: whose turn a tick is, the next turn, how many turns the ticks have, and the bound, are as the document defines them (SlotsTell). There are no conditions. -/
import Derived.Test.YtipiooolplgjjaaRows
import Derived.Test.YtipiooolplgjjaaTellWalk
import Derived.Carry
import Derived.WalkKit
import Derived.ProofKit
import Derived.OpenShut
import Derived.ShutString
import Derived.ChangeOld
import Derived.Below
import Derived.SizedLaws
namespace Go.Proofs.Ytipiooolplgjjaa.slotsTell
open Go.ChangeShapes Go.WideShapes Go.ChangeAt Go.RowKit
open Go.ChangeMaps (open_string shut_string)
set_option linter.unusedVariables false
theorem own : ownKnob Try.prog.godebug = none := by kernel_rfl
theorem tc46 : Try.prog.cellsOf 46 = 2 := by kernel_rfl
theorem tc22 : Try.prog.cellsOf 22 = 1 := by kernel_rfl
theorem lis2 {α : Type} {l : List α} (h : l.length = 2) : ∃ a b, l = [a, b] := by
  match l, h with
  | [a, b], _ => exact ⟨a, b, rfl⟩
theorem arr2 {α : Type} {l : Array α} (h : l.size = 2) : ∃ a b, l = #[a, b] := by
  obtain ⟨a, b, e⟩ := lis2 (l := l.toList) (by simpa using h)
  exact ⟨a, b, by rw [← Array.toArray_toList (xs := l), e]⟩
set_option maxRecDepth 100000 in
theorem lifted (os : Os) (started : os.Started) (H : Type) (enc : TypeId × Value → H) :
    ReturnsInHanded {} Try.checked os 6 .any (Rows.slotsTellSpec.pre6 enc Try.prog Try.f6 Rows.slotsTellRow.domain false) (Rows.slotsTellSpec.post enc Try.prog Try.f6 false true false false) := by
  refine returnsInHanded_of_change_sized (C := Try.checked) own started (by kernel_rfl) Try.func6
    (ChangeSpec.witness6 (enc := enc) (C := Try.checked) false ⟨#[], #[.int .i64 0, .agg #[.int .u32 0, .int .u32 0], .int .i64 0], []⟩ 8 (by kernel_rfl) (by kernel_rfl) (by kernel_rfl) (by kernel_rfl)) ?_
  intro W base args ds gs before hval0 hW hcnd hsz0 _
  have hsz : (DataW.weightsEach Try.prog (Try.f6.params.toList ++ Rows.slotsTellSpec.plain.varTypes Try.prog) (ds ++ gs)).all (· ≤ reachBytes) = true := hsz0
  have hval : ∀ (j : Nat) t v, Try.f6.params[j]? = some t → args[j]? = some v → Value.okWide Try.prog W .any base t v := hval0
  have hW' := hW
  obtain ⟨p, q, hA0, hV, rfl, hfz, hnd⟩ := hW
  have hA : DataW.TrodAll enc Try.prog W 0 (fun _ => true) true Try.f6.params.toList args.toList ds p := hA0
  rw [Try.params6] at hA hval hsz
  obtain ⟨v0, vs0, d0, ds0, p0, q0, hargs, rfl, rfl, h0, r0⟩ := trodAll_cons hA
  obtain ⟨v1, vs1, d1, ds1, p1, q1, rfl, rfl, rfl, h1, r1⟩ := trodAll_cons r0
  obtain ⟨v2, vs2, d2, ds2, p2, q2, rfl, rfl, rfl, h2, r2⟩ := trodAll_cons r1
  obtain ⟨rfl, rfl, rfl⟩ := trodAll_nil r2
  obtain rfl : args = #[v0, v1, v2] := by cases args; simp_all
  obtain ⟨rfl, rfl⟩ := trodVars_none hV
  have h1c := h1
  obtain ⟨a0, rfl, rfl, rfl, w0⟩ := open_int Try.underlying3 (hval 0 3 v0 rfl rfl) h0
  obtain ⟨k0, rfl, rfl, rfl, w2⟩ := open_int Try.underlying3 (hval 2 3 v2 rfl rfl) h2
  obtain ⟨cs, rfl, hsz1, _⟩ : ∃ cs, v1 = .agg cs ∧ cs.size = Try.prog.cellsOf 46 ∧ Row.okWide Try.prog W .any base 46 cs := by
    have := hval 1 46 v1 rfl rfl
    simpa [Value.okWide, Try.underlying46] using this
  rw [tc46] at hsz1
  obtain ⟨c0, c1, rfl⟩ := arr2 hsz1
  obtain ⟨fuel, hf⟩ := h1
  obtain ⟨xs, m, _, hx, _, hxl, hel⟩ := DataW.trod_array Try.underlying46 hf
  obtain ⟨y0, y1, rfl⟩ := lis2 hxl
  have e0 := hel 0 (by decide)
  have e1 := hel 1 (by decide)
  simp [Value.cells, tc22] at e0 e1
  obtain ⟨x0, ex0, ey0, wx0⟩ := DataW.trod_int Try.underlying22 e0
  obtain ⟨x1, ex1, ey1, wx1⟩ := DataW.trod_int Try.underlying22 e1
  simp at ex0 ex1
  subst ex0 ex1 ey0 ey1
  simp at hx
  obtain ⟨rfl, rfl⟩ := hx
  clear hA0 hval0 hsz0 hsz
  have r0 := TellRef.wf_u32 wx0
  have r1 := TellRef.wf_u32 wx1
  refine (TellWalk.tell_walk a0 x0 x1 k0 W r0.1 r0.2 r1.1 r1.2).mono fun e W' ⟨he, bel⟩ => ?_
  subst he
  have t1 := Below.trod (by kernel_rfl) (by kernel_rfl) (of_decide_eq_true (by kernel_rfl)) h1c bel (by simp)
  exact ⟨_, rfl, _, _, _, [], _, [], hW', trodAll_mk1 (shut_bool Try.underlying4 _), (trodAll_cons_mk (shut_int Try.underlying3 w0) (trodAll_cons_mk t1 (trodAll_cons_mk (shut_int Try.underlying3 w2) trodAll_mk0))), rfl, bel.frame _, fun h => by cases h⟩
theorem over : Rows.slotsTellRow.holds Try.pinned (OpenSpec.ofChange Rows.slotsTellSpec) :=
  OpenClaim.holds_of_wide 6 Try.f6 rfl rfl rfl rfl rfl rfl rfl ⟨rfl, rfl, rfl, rfl, rfl⟩ rfl rfl rfl rfl rfl (by kernel_rfl) Try.func6 (by kernel_rfl)
    (of_decide_eq_true (by kernel_rfl)) (by unfold Func.isWrapper; first | (rw [if_pos (by decide +kernel)]; kernel_rfl) | (rw [if_neg (by decide +kernel)]; exact ⟨rfl, rfl⟩))
    (fun os started H enc _ => lifted os started H enc)
theorem proved : Rows.SlotsTellSaid := over
#print axioms proved
end Go.Proofs.Ytipiooolplgjjaa.slotsTell
namespace Go.Proofs.Ytipiooolplgjjaa
/-- The row, under a short name, for the claim. -/
theorem slotsTell_holds : Rows.SlotsTellSaid := slotsTell.proved
end Go.Proofs.Ytipiooolplgjjaa

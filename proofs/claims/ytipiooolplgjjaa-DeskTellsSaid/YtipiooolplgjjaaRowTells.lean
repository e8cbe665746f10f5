/- For every desk, node, force and label: the other node, whether the node may become primary, the label that it has then, and the desk then, are as the document defines them (DeskTells). There are no conditions. -/
import Derived.Test.YtipiooolplgjjaaRows
import Derived.Test.YtipiooolplgjjaaTellsWalk
import Derived.Carry
import Derived.WalkKit
import Derived.ProofKit
import Derived.OpenShut
import Derived.ShutString
import Derived.ChangeOld
import Derived.Below
import Derived.SizedLaws
namespace Go.Proofs.Ytipiooolplgjjaa.deskTells
open Go.ChangeShapes Go.WideShapes Go.ChangeAt Go.RowKit
open Go.ChangeMaps (open_string shut_string)
set_option linter.unusedVariables false
theorem own : ownKnob Try.prog.godebug = none := by kernel_rfl
theorem tc24 : Try.prog.cellsOf 24 = 3 := by kernel_rfl
theorem tc27 : Try.prog.cellsOf 27 = 5 := by kernel_rfl
theorem tc29 : Try.prog.cellsOf 29 = 8 := by kernel_rfl
theorem tc22 : Try.prog.cellsOf 22 = 1 := by kernel_rfl
theorem tc25 : Try.prog.cellsOf 25 = 1 := by kernel_rfl
theorem tc3 : Try.prog.cellsOf 3 = 1 := by kernel_rfl
theorem tc4 : Try.prog.cellsOf 4 = 1 := by kernel_rfl
theorem lis3 {α : Type} {l : List α} (h : l.length = 3) : ∃ a b c, l = [a, b, c] := by
  match l, h with
  | [a, b, c], _ => exact ⟨a, b, c, rfl⟩
theorem lis4 {α : Type} {l : List α} (h : l.length = 4) : ∃ a b c d, l = [a, b, c, d] := by
  match l, h with
  | [a, b, c, d], _ => exact ⟨a, b, c, d, rfl⟩
theorem lis5 {α : Type} {l : List α} (h : l.length = 5) : ∃ a b c d e, l = [a, b, c, d, e] := by
  match l, h with
  | [a, b, c, d, e], _ => exact ⟨a, b, c, d, e, rfl⟩
theorem lis8 {α : Type} {l : List α} (h : l.length = 8) : ∃ a b c d e f g i, l = [a, b, c, d, e, f, g, i] := by
  match l, h with
  | [a, b, c, d, e, f, g, i], _ => exact ⟨a, b, c, d, e, f, g, i, rfl⟩
section
variable {H : Type} {enc : TypeId × Value → H} {W : World} {base : Nat} {sp : Nat → Bool} {held : Bool} {fuel : Nat} {cs : List Value} {x : DataW H × List MemPlace}
theorem open24 (h : DataW.trod enc Try.prog W base sp held fuel 24 cs = some x) : ∃ p e s, cs = [.int .i64 p, .int .u32 e, .bool s] ∧ x.2 = [] := by
  obtain ⟨xs, m, _, rfl, hl, hn, hf⟩ := DataW.trod_struct Try.underlying24 h
  rw [tc24] at hl
  obtain ⟨c0, c1, c2, rfl⟩ := lis3 hl
  obtain ⟨y0, y1, y2, rfl⟩ := lis3 hn
  have e0 := hf 0 _ rfl
  have e1 := hf 1 _ rfl
  have e2 := hf 2 _ rfl
  simp [tc3, tc22, tc4] at e0 e1 e2
  obtain ⟨p, g0, rfl, _⟩ := DataW.trod_int Try.underlying3 e0
  obtain ⟨e, g1, rfl, _⟩ := DataW.trod_int Try.underlying22 e1
  obtain ⟨s, g2, rfl⟩ := DataW.trod_bool Try.underlying4 e2
  simp at g0 g1 g2
  subst g0 g1 g2
  exact ⟨p, e, s, rfl, by simp⟩
theorem open27 (h : DataW.trod enc Try.prog W base sp held fuel 27 cs = some x) : ∃ a b c d l, cs = [.int .u32 a, .int .u32 b, .int .u32 c, .int .u16 d, .int .u16 l] ∧ x.2 = [] := by
  obtain ⟨xs, m, _, rfl, hl, hn, hf⟩ := DataW.trod_struct Try.underlying27 h
  rw [tc27] at hl
  obtain ⟨c0, c1, c2, c3, c4, rfl⟩ := lis5 hl
  obtain ⟨y0, y1, y2, y3, y4, rfl⟩ := lis5 hn
  have e0 := hf 0 _ rfl
  have e1 := hf 1 _ rfl
  have e2 := hf 2 _ rfl
  have e3 := hf 3 _ rfl
  have e4 := hf 4 _ rfl
  simp [tc25, tc22] at e0 e1 e2 e3 e4
  obtain ⟨a, g0, rfl, _⟩ := DataW.trod_int Try.underlying22 e0
  obtain ⟨b, g1, rfl, _⟩ := DataW.trod_int Try.underlying22 e1
  obtain ⟨c, g2, rfl, _⟩ := DataW.trod_int Try.underlying22 e2
  obtain ⟨d, g3, rfl, _⟩ := DataW.trod_int Try.underlying25 e3
  obtain ⟨l, g4, rfl, _⟩ := DataW.trod_int Try.underlying25 e4
  simp at g0 g1 g2 g3 g4
  subst g0 g1 g2 g3 g4
  exact ⟨a, b, c, d, l, rfl, by simp⟩
theorem open29 (h : DataW.trod enc Try.prog W base sp held fuel 29 cs = some x) : ∃ n u f a b c d l, cs = [.int .i64 n, .bool u, .bool f, .int .u32 a, .int .u32 b, .int .u32 c, .int .u16 d, .int .u16 l] ∧ x.2 = [] := by
  obtain ⟨xs, m, _, rfl, hl, hn, hf⟩ := DataW.trod_struct Try.underlying29 h
  rw [tc29] at hl
  obtain ⟨c0, c1, c2, c3, c4, c5, c6, c7, rfl⟩ := lis8 hl
  obtain ⟨y0, y1, y2, y3, rfl⟩ := lis4 hn
  have e0 := hf 0 _ rfl
  have e1 := hf 1 _ rfl
  have e2 := hf 2 _ rfl
  have e3 := hf 3 _ rfl
  simp [tc3, tc4, tc27] at e0 e1 e2 e3
  obtain ⟨n, g0, rfl, _⟩ := DataW.trod_int Try.underlying3 e0
  obtain ⟨u, g1, rfl⟩ := DataW.trod_bool Try.underlying4 e1
  obtain ⟨f, g2, rfl⟩ := DataW.trod_bool Try.underlying4 e2
  obtain ⟨a, b, c, d, l, g3, g4⟩ := open27 e3
  simp at g0 g1 g2 g3
  obtain ⟨rfl, rfl, rfl, rfl, rfl⟩ := g3
  subst g0 g1 g2
  exact ⟨n, u, f, a, b, c, d, l, rfl, by simp [g4]⟩
end
set_option maxHeartbeats 400000 in
set_option maxRecDepth 100000 in
theorem lifted (os : Os) (started : os.Started) (H : Type) (enc : TypeId × Value → H) :
    ReturnsInHanded {} Try.checked os 3 .any (Rows.deskTellsSpec.pre6 enc Try.prog Try.f3 Rows.deskTellsRow.domain false) (Rows.deskTellsSpec.post enc Try.prog Try.f3 false true false false) := by
  refine returnsInHanded_of_change_sized (C := Try.checked) own started (by kernel_rfl) Try.func3
    (ChangeSpec.witness6 (enc := enc) (C := Try.checked) false ⟨#[], #[.agg #[.int .i64 0, .int .u32 0, .bool false], .agg #[.int .i64 0, .bool false, .bool false, .int .u32 0, .int .u32 0, .int .u32 0, .int .u16 0, .int .u16 0]], []⟩ 8 (by kernel_rfl) (by kernel_rfl) (by kernel_rfl) (by kernel_rfl)) ?_
  intro W base args ds gs before hval0 hW hcnd hsz0 _
  have hsz : (DataW.weightsEach Try.prog (Try.f3.params.toList ++ Rows.deskTellsSpec.plain.varTypes Try.prog) (ds ++ gs)).all (· ≤ reachBytes) = true := hsz0
  have hval : ∀ (j : Nat) t v, Try.f3.params[j]? = some t → args[j]? = some v → Value.okWide Try.prog W .any base t v := hval0
  have hW' := hW
  obtain ⟨p, q, hA0, hV, rfl, hfz, hnd⟩ := hW
  have hA : DataW.TrodAll enc Try.prog W 0 (fun _ => true) true Try.f3.params.toList args.toList ds p := hA0
  rw [Try.params3] at hA hval hsz
  obtain ⟨v0, vs0, d0, ds0, p0, q0, hargs, rfl, rfl, h0, r0⟩ := trodAll_cons hA
  obtain ⟨v1, vs1, d1, ds1, p1, q1, rfl, rfl, rfl, h1, r1⟩ := trodAll_cons r0
  obtain ⟨rfl, rfl, rfl⟩ := trodAll_nil r1
  obtain rfl : args = #[v0, v1] := by cases args; simp_all
  obtain ⟨rfl, rfl⟩ := trodVars_none hV
  have h0c := h0
  have h1c := h1
  obtain ⟨cs, rfl, hsz0, _⟩ : ∃ cs, v0 = .agg cs ∧ cs.size = Try.prog.cellsOf 24 ∧ Row.okWide Try.prog W .any base 24 cs := by
    have := hval 0 24 v0 rfl rfl
    simpa [Value.okWide, Try.underlying24] using this
  obtain ⟨cs1, rfl, hsz1, _⟩ : ∃ cs, v1 = .agg cs ∧ cs.size = Try.prog.cellsOf 29 ∧ Row.okWide Try.prog W .any base 29 cs := by
    have := hval 1 29 v1 rfl rfl
    simpa [Value.okWide, Try.underlying29] using this
  obtain ⟨fuel0, hf0⟩ := h0
  obtain ⟨fuel1, hf1⟩ := h1
  obtain ⟨a0, a1, a2, hc0, hp0⟩ := open24 hf0
  obtain ⟨n, up, force, a, b, c, d, l, hc1, hp1⟩ := open29 hf1
  have hp0' : p0 = [] := hp0
  have hp1' : p1 = [] := hp1
  have e0 : cs = #[.int .i64 a0, .int .u32 a1, .bool a2] := by rw [← Array.toArray_toList (xs := cs)]; exact congrArg List.toArray hc0
  have e1 : cs1 = #[.int .i64 n, .bool up, .bool force, .int .u32 a, .int .u32 b, .int .u32 c, .int .u16 d, .int .u16 l] := by rw [← Array.toArray_toList (xs := cs1)]; exact congrArg List.toArray hc1
  subst e0 e1 hp0' hp1'
  clear hA0 hval0 hsz hf0 hf1 hc0 hc1 hp0 hp1
  refine (TellsWalk.tells_walk a0 a1 a2 n up force a b c d l W).mono fun e W' ⟨he, bel⟩ => ?_
  subst he
  have t0 := Below.trod (by kernel_rfl) (by kernel_rfl) (of_decide_eq_true (by kernel_rfl)) h0c bel (by simp)
  have t1 := Below.trod (by kernel_rfl) (by kernel_rfl) (of_decide_eq_true (by kernel_rfl)) h1c bel (by simp)
  exact ⟨_, rfl, _, _, _, [], _, [], hW', trodAll_mk1 (shut_bool Try.underlying4 _), (trodAll_cons_mk t0 (trodAll_cons_mk t1 trodAll_mk0)), rfl, bel.frame _, fun h => by cases h⟩
theorem over : Rows.deskTellsRow.holds Try.pinned (OpenSpec.ofChange Rows.deskTellsSpec) :=
  OpenClaim.holds_of_wide 3 Try.f3 rfl rfl rfl rfl rfl rfl rfl ⟨rfl, rfl, rfl, rfl, rfl⟩ rfl rfl rfl rfl rfl (by kernel_rfl) Try.func3 (by kernel_rfl)
    (of_decide_eq_true (by kernel_rfl)) (by unfold Func.isWrapper; first | (rw [if_pos (by decide +kernel)]; kernel_rfl) | (rw [if_neg (by decide +kernel)]; exact ⟨rfl, rfl⟩))
    (fun os started H enc _ => lifted os started H enc)
theorem proved : Rows.DeskTellsSaid := over
#print axioms proved
end Go.Proofs.Ytipiooolplgjjaa.deskTells
namespace Go.Proofs.Ytipiooolplgjjaa
/-- The row, under a short name, for the claim. -/
theorem deskTells_holds : Rows.DeskTellsSaid := deskTells.proved
end Go.Proofs.Ytipiooolplgjjaa

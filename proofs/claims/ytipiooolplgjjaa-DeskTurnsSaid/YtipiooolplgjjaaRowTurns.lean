/- For every list of turns that are asked for: turn by turn the primary is the one that was asked for, and the epoch one more; who may not is who is down, or primary already, or not forced; the fresh label is later (DeskTurns). There are no conditions. -/
import Derived.Test.YtipiooolplgjjaaRows
import Derived.Test.YtipiooolplgjjaaTurnsWalk
import Derived.Carry
import Derived.Deep.Slices
import Derived.ChangeOld
import Derived.WalkKit
import Derived.ProofKit
import Derived.OpenShut
import Derived.ShutString
import Derived.ChangeOld
import Derived.Below
import Derived.SizedLaws
namespace Go.Proofs.Ytipiooolplgjjaa.deskTurns
open Go.ChangeShapes Go.WideShapes Go.ChangeAt Go.RowKit
open Go.ChangeMaps (open_string shut_string)
set_option linter.unusedVariables false
theorem own : ownKnob Try.prog.godebug = none := by kernel_rfl
theorem add_none (b o n : Nat) : (Addr.mk b o none).add n = ⟨b, o + n, none⟩ := by unfold Addr.add; split <;> simp_all
theorem tc24 : Try.prog.cellsOf 24 = 3 := by kernel_rfl
theorem tc27 : Try.prog.cellsOf 27 = 5 := by kernel_rfl
theorem tc29 : Try.prog.cellsOf 29 = 8 := by kernel_rfl
theorem tc22 : Try.prog.cellsOf 22 = 1 := by kernel_rfl
theorem tc25 : Try.prog.cellsOf 25 = 1 := by kernel_rfl
theorem tc3 : Try.prog.cellsOf 3 = 1 := by kernel_rfl
theorem tc4 : Try.prog.cellsOf 4 = 1 := by kernel_rfl
theorem lis3 {α : Type} {l : List α} (h : l.length = 3) : ∃ a b c, l = [a, b, c] := by
  match l, h with
  | [a, b, c], _ => exact ⟨a, b, c, rfl⟩
theorem lis4 {α : Type} {l : List α} (h : l.length = 4) : ∃ a b c d, l = [a, b, c, d] := by
  match l, h with
  | [a, b, c, d], _ => exact ⟨a, b, c, d, rfl⟩
theorem lis5 {α : Type} {l : List α} (h : l.length = 5) : ∃ a b c d e, l = [a, b, c, d, e] := by
  match l, h with
  | [a, b, c, d, e], _ => exact ⟨a, b, c, d, e, rfl⟩
theorem lis8 {α : Type} {l : List α} (h : l.length = 8) : ∃ a b c d e f g i, l = [a, b, c, d, e, f, g, i] := by
  match l, h with
  | [a, b, c, d, e, f, g, i], _ => exact ⟨a, b, c, d, e, f, g, i, rfl⟩
section
variable {H : Type} {enc : TypeId × Value → H} {W : World} {base : Nat} {sp : Nat → Bool} {held : Bool} {fuel : Nat} {cs : List Value} {x : DataW H × List MemPlace}
theorem open24 (h : DataW.trod enc Try.prog W base sp held fuel 24 cs = some x) : ∃ p e s, cs = [.int .i64 p, .int .u32 e, .bool s] ∧ x.2 = [] := by
  obtain ⟨xs, m, _, rfl, hl, hn, hf⟩ := DataW.trod_struct Try.underlying24 h
  rw [tc24] at hl
  obtain ⟨c0, c1, c2, rfl⟩ := lis3 hl
  obtain ⟨y0, y1, y2, rfl⟩ := lis3 hn
  have e0 := hf 0 _ rfl
  have e1 := hf 1 _ rfl
  have e2 := hf 2 _ rfl
  simp [tc3, tc22, tc4] at e0 e1 e2
  obtain ⟨p, g0, rfl, _⟩ := DataW.trod_int Try.underlying3 e0
  obtain ⟨e, g1, rfl, _⟩ := DataW.trod_int Try.underlying22 e1
  obtain ⟨s, g2, rfl⟩ := DataW.trod_bool Try.underlying4 e2
  simp at g0 g1 g2
  subst g0 g1 g2
  exact ⟨p, e, s, rfl, by simp⟩
theorem open27 (h : DataW.trod enc Try.prog W base sp held fuel 27 cs = some x) : ∃ a b c d l, cs = [.int .u32 a, .int .u32 b, .int .u32 c, .int .u16 d, .int .u16 l] ∧ x.2 = [] := by
  obtain ⟨xs, m, _, rfl, hl, hn, hf⟩ := DataW.trod_struct Try.underlying27 h
  rw [tc27] at hl
  obtain ⟨c0, c1, c2, c3, c4, rfl⟩ := lis5 hl
  obtain ⟨y0, y1, y2, y3, y4, rfl⟩ := lis5 hn
  have e0 := hf 0 _ rfl
  have e1 := hf 1 _ rfl
  have e2 := hf 2 _ rfl
  have e3 := hf 3 _ rfl
  have e4 := hf 4 _ rfl
  simp [tc25, tc22] at e0 e1 e2 e3 e4
  obtain ⟨a, g0, rfl, _⟩ := DataW.trod_int Try.underlying22 e0
  obtain ⟨b, g1, rfl, _⟩ := DataW.trod_int Try.underlying22 e1
  obtain ⟨c, g2, rfl, _⟩ := DataW.trod_int Try.underlying22 e2
  obtain ⟨d, g3, rfl, _⟩ := DataW.trod_int Try.underlying25 e3
  obtain ⟨l, g4, rfl, _⟩ := DataW.trod_int Try.underlying25 e4
  simp at g0 g1 g2 g3 g4
  subst g0 g1 g2 g3 g4
  exact ⟨a, b, c, d, l, rfl, by simp⟩
theorem open29 (h : DataW.trod enc Try.prog W base sp held fuel 29 cs = some x) : ∃ n u f a b c d l, cs = [.int .i64 n, .bool u, .bool f, .int .u32 a, .int .u32 b, .int .u32 c, .int .u16 d, .int .u16 l] ∧ x.2 = [] := by
  obtain ⟨xs, m, _, rfl, hl, hn, hf⟩ := DataW.trod_struct Try.underlying29 h
  rw [tc29] at hl
  obtain ⟨c0, c1, c2, c3, c4, c5, c6, c7, rfl⟩ := lis8 hl
  obtain ⟨y0, y1, y2, y3, rfl⟩ := lis4 hn
  have e0 := hf 0 _ rfl
  have e1 := hf 1 _ rfl
  have e2 := hf 2 _ rfl
  have e3 := hf 3 _ rfl
  simp [tc3, tc4, tc27] at e0 e1 e2 e3
  obtain ⟨n, g0, rfl, _⟩ := DataW.trod_int Try.underlying3 e0
  obtain ⟨u, g1, rfl⟩ := DataW.trod_bool Try.underlying4 e1
  obtain ⟨f, g2, rfl⟩ := DataW.trod_bool Try.underlying4 e2
  obtain ⟨a, b, c, d, l, g3, g4⟩ := open27 e3
  simp at g0 g1 g2 g3
  obtain ⟨rfl, rfl, rfl, rfl, rfl⟩ := g3
  subst g0 g1 g2
  exact ⟨n, u, f, a, b, c, d, l, rfl, by simp [g4]⟩
end
set_option maxHeartbeats 400000 in
set_option maxRecDepth 100000 in
theorem lifted (os : Os) (started : os.Started) (H : Type) (enc : TypeId × Value → H) :
    ReturnsInHanded {} Try.checked os 4 .any (Rows.deskTurnsSpec.pre6 enc Try.prog Try.f4 Rows.deskTurnsRow.domain false) (Rows.deskTurnsSpec.post enc Try.prog Try.f4 false true false false) := by
  refine returnsInHanded_of_change_sized (C := Try.checked) own started (by kernel_rfl) Try.func4
    (ChangeSpec.witness6 (enc := enc) (C := Try.checked) false ⟨#[], #[.slice none 0 0], []⟩ 8 (by kernel_rfl) (by kernel_rfl) (by kernel_rfl) (by kernel_rfl)) ?_
  intro W base args ds gs before hval0 hW hcnd hsz0 _
  have hsz : (DataW.weightsEach Try.prog (Try.f4.params.toList ++ Rows.deskTurnsSpec.plain.varTypes Try.prog) (ds ++ gs)).all (· ≤ reachBytes) = true := hsz0
  have hval : ∀ (j : Nat) t v, Try.f4.params[j]? = some t → args[j]? = some v → Value.okWide Try.prog W .any base t v := hval0
  have hW' := hW
  obtain ⟨p, q, hA0, hV, rfl, hfz, hnd⟩ := hW
  have hA : DataW.TrodAll enc Try.prog W 0 (fun _ => true) true Try.f4.params.toList args.toList ds p := hA0
  rw [Try.params4] at hA hval hsz
  obtain ⟨v0, vs0, d0, ds0, p0, q0, hargs, rfl, rfl, h0, r0⟩ := trodAll_cons hA
  obtain ⟨rfl, rfl, rfl⟩ := trodAll_nil r0
  obtain rfl : args = #[v0] := by cases args; simp_all
  obtain ⟨rfl, rfl⟩ := trodVars_none hV
  have h0c := h0
  obtain ⟨A, len, cap, rfl⟩ := okWide_slice Try.underlying42 (hval 0 42 v0 rfl rfl)
  obtain ⟨fuel0, hf0⟩ := h0
  have hlt := DataW.trod_lt _ _ _ _ hf0
  have fin : Calls Try.prog 4 #[.slice A len cap] W fun r w' => r = .returned (.bool true) ∧ Below W.heap.size W w' := by
    by_cases h100 : 100 < len
    · exact TurnsWalk.turns_big A len cap W h100
    by_cases hz : len = 0
    · subst hz; exact TurnsWalk.turns_nil A cap W
    rcases Go.Deep.open_slice Try.underlying42 hf0 with ⟨hcs, _⟩ | ⟨a, len', cap', m, n, D, Pl, hcs, _, hl, _, hm, _, hel⟩
    · simp [Value.cells] at hcs; omega
    · simp [Value.cells] at hcs
      obtain ⟨rfl, rfl, rfl⟩ := hcs
      have hmm : len ≤ m := by rw [hm]; split <;> omega
      have hcell : ∀ i, ∃ x : TurnsWalk.El, i < len → ∀ j, j < 8 → W.cell? ((a.add (i * 8)).add j) = x.cells[j]? := by
        intro i
        by_cases hi : i < len
        · obtain ⟨cs', h1, h2⟩ := hel i (by omega)
          rw [tc29] at h1
          obtain ⟨n', u, f, a', b, c, d, l, hc, _⟩ := open29 h2
          obtain ⟨_, _, h3⟩ := World.cells?_some h1
          exact ⟨⟨n', u, f, a', b, c, d, l⟩, fun _ j hj => by rw [h3 j hj, hc]; rfl⟩
        · exact ⟨⟨0, false, false, 0, 0, 0, 0, 0⟩, fun h => absurd h hi⟩
      have hsp : a.spot = none := by
        obtain ⟨x, hx⟩ := hcell 0
        have h1 := hx (by omega) 0 (by omega)
        have h2 : x.cells[0]? = some (.int .i64 x.n) := rfl
        rw [h2] at h1
        unfold World.cell? at h1
        split at h1
        · split at h1
          · cases h1
          · rename_i hns
            have : ((a.add (0 * 8)).add 0).spot = a.spot := rfl
            rw [this] at hns
            cases hs : a.spot with
            | none => rfl
            | some _ => rw [hs] at hns; simp at hns
        · cases h1
      obtain ⟨ba, oa, sp⟩ := a
      simp at hsp
      subst hsp
      obtain ⟨E, hE⟩ : ∃ E : Nat → TurnsWalk.El, ∀ i, i < len → ∀ j, j < 8 → W.cell? ⟨ba, oa + i * 8 + j, none⟩ = (E i).cells[j]? :=
        ⟨fun i => Classical.choose (hcell i), fun i hi j hj => (show W.cell? ⟨ba, oa + i * 8 + j, none⟩ = W.cell? ((Addr.add ⟨ba, oa, none⟩ (i * 8)).add j) by rw [add_none, add_none]).trans (Classical.choose_spec (hcell i) hi j hj)⟩
      exact TurnsWalk.turns_some ba oa len cap E W (by omega) hl hE
  clear hA0 hval0 hsz0 hsz
  refine fin.mono fun e W' ⟨he, bel⟩ => ?_
  subst he
  have t0 := Below.trod (by kernel_rfl) (by kernel_rfl) (of_decide_eq_true (by kernel_rfl)) h0c bel hlt
  exact ⟨_, rfl, _, _, _, [], _, [], hW', trodAll_mk1 (shut_bool Try.underlying4 _), (trodAll_cons_mk t0 trodAll_mk0), rfl, bel.frame _, fun h => by cases h⟩
theorem over : Rows.deskTurnsRow.holds Try.pinned (OpenSpec.ofChange Rows.deskTurnsSpec) :=
  OpenClaim.holds_of_wide 4 Try.f4 rfl rfl rfl rfl rfl rfl rfl ⟨rfl, rfl, rfl, rfl, rfl⟩ rfl rfl rfl rfl rfl (by kernel_rfl) Try.func4 (by kernel_rfl)
    (of_decide_eq_true (by kernel_rfl)) (by unfold Func.isWrapper; first | (rw [if_pos (by decide +kernel)]; kernel_rfl) | (rw [if_neg (by decide +kernel)]; exact ⟨rfl, rfl⟩))
    (fun os started H enc _ => lifted os started H enc)
theorem proved : Rows.DeskTurnsSaid := over
#print axioms proved
end Go.Proofs.Ytipiooolplgjjaa.deskTurns
namespace Go.Proofs.Ytipiooolplgjjaa
/-- The row, under a short name, for the claim. -/
theorem deskTurns_holds : Rows.DeskTurnsSaid := deskTurns.proved
end Go.Proofs.Ytipiooolplgjjaa

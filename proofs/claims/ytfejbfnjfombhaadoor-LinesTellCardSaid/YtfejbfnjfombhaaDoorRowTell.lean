/- For every text and every line: the program and the document tell the same line of the text, the same text of the line, and the same words (LinesTell). The row lists what package-level tables and variables of the library read as, tied to the text. -/
import Derived.Test.YtfejbfnjfombhaaDoorRows
import Derived.Test.YtfejbfnjfombhaaDoorCards
import Derived.Test.YtfejbfnjfombhaaDoorTie
import Derived.Test.YtfejbfnjfombhaaDoorLinJ
import Derived.Test.YtfejbfnjfombhaaDoorLinV
import Derived.Test.YtfejbfnjfombhaaDoorLinL
import Derived.Carry
import Derived.WalkKit
import Derived.ProofKit
import Derived.OpenShut
import Derived.ShutString
import Derived.ChangeOld
import Derived.Below
import Derived.SizedLaws
import Derived.LaidMore
import Derived.Lay
import Derived.SevenTiedAt
import Derived.Stop.Joined
import Derived.Deep.Slices
namespace Go.Proofs.YtfejbfnjfombhaaDoor.rowTell
open Go.ChangeShapes Go.WideShapes Go.ChangeAt Go.RowKit
open Go.ChangeMaps (open_string shut_string)
set_option linter.unusedVariables false
set_option linter.unusedSimpArgs false
theorem own : ownKnob Tryd.prog.godebug = none := by kernel_rfl
set_option maxRecDepth 100000 in
theorem lifted (os : Os) (started : os.Started) (H : Type) (enc : TypeId × Value → H) :
    ReturnsInHanded {} Tryd.checked os 3 .any (fun w args => (Rows.linesTellSpec.pre enc Tryd.prog Tryd.f3 [] false w args ∧ laidMetH Tryd.prog Rows.linesTellRow.laid w) ∧ sizedMet enc Tryd.prog Tryd.f3 (OpenSpec.ofChange Rows.linesTellSpec) false w args)
      (Rows.linesTellSpec.post enc Tryd.prog Tryd.f3 false true false false) := by
  refine row_wrap (C := Tryd.checked) (L := Rows.linesTellRow.laid) started (by kernel_rfl) Tryd.func3 own
    (ChangeSpec.witness_shaped (enc := enc) (C := Tryd.checked) (os := os) (X := fun w _ => laidMetH Tryd.prog Rows.linesTellRow.laid w) false (World.laidAll Tryd.prog os Rows.linesTellRow.laid) #[.string ByteArray.empty, .agg #[.int .i64 0, .string ByteArray.empty, .int .i64 0, .int .u32 0]] 8 (World.laidAll_os _ _ _)
      (World.shaped_of_ZipB (by kernel_rfl) (by kernel_rfl)) (by kernel_rfl) (by kernel_rfl) (by kernel_rfl)
      (by rw [MakeChecks.laidMetH_plain _ _ _ (by kernel_rfl)]; exact laidMet_laidAll _ (by kernel_rfl) (by kernel_rfl))) ?_
  intro W base args ds gs before hval0 hW hL hsh
  have E := LinJ.env_of_laid hL hsh
  have hval : ∀ (j : Nat) t v, Tryd.f3.params[j]? = some t → args[j]? = some v → Value.okWide Tryd.prog W .any base t v := hval0
  have hW' := hW
  obtain ⟨p, q, hA0, hV, rfl, hfz, hnd⟩ := hW
  have hA : DataW.TrodAll enc Tryd.prog W 0 (fun _ => true) true Tryd.f3.params.toList args.toList ds p := hA0
  rw [Tryd.params3] at hA hval
  obtain ⟨v0, v1, d0, d1, p0, p1, rfl, rfl, rfl, h0, h1⟩ := trodAll_two hA
  obtain ⟨rfl, rfl⟩ := trodVars_none hV
  have h0c := h0
  have h1c := h1
  obtain ⟨fuel, hf⟩ := h0
  have hlt := DataW.trod_lt _ _ _ _ hf
  obtain ⟨fuel1, hf1⟩ := h1
  have hlt1 := DataW.trod_lt _ _ _ _ hf1
  obtain ⟨s, rfl, ws⟩ : ∃ s, v0 = .string s ∧ True := by
    have := hval 0 9 v0 rfl rfl
    unfold Value.okWide at this
    simp only [Tryd.underlying9] at this
    unfold Cell.okWide at this
    cases v0 <;> simp [Value.cells, Cell.ok, Tryd.underlying9] at this
    exact ⟨_, rfl, trivial⟩
  obtain ⟨cs, rfl, hsz1, _⟩ : ∃ cs, v1 = .agg cs ∧ cs.size = Tryd.prog.cellsOf 24 ∧ Row.okWide Tryd.prog W .any base 24 cs := by
    have := hval 1 24 v1 rfl rfl
    simpa [Value.okWide, Tryd.underlying24] using this
  obtain ⟨l, hcs, hv, hn, ht⟩ := LinL.open_line hf1
  have hcs' : cs = #[.int .i64 l.verb, .string l.name, .int .i64 l.n, .int .u32 l.till] := by
    apply Array.toList_inj.1
    rw [show cs.toList = _ from hcs]
  subst hcs'
  clear hA0 hval0
  refine (LinV.tell_walk s l hn ht W E).mono fun e W' ⟨he, bel⟩ => ?_
  subst he
  have t0 := Below.trod (by kernel_rfl) (by kernel_rfl) (of_decide_eq_true (by kernel_rfl)) h0c bel hlt
  have t1 := Below.trod (by kernel_rfl) (by kernel_rfl) (of_decide_eq_true (by kernel_rfl)) h1c bel hlt1
  exact ⟨_, rfl, _, _, _, [], _, [], hW', trodAll_mk1 (shut_bool Tryd.underlying4 _), (trodAll_cons_mk t0 (trodAll_cons_mk t1 trodAll_mk0)), rfl, bel.frame _, fun h => by cases h⟩
theorem row_holds : Rows.LinesTellSaid :=
  OpenClaim.holds_of_wide 3 Tryd.f3 rfl rfl rfl rfl rfl rfl rfl ⟨rfl, rfl, rfl, rfl, rfl⟩ rfl rfl rfl rfl rfl (by kernel_rfl) Tryd.func3 (by kernel_rfl)
    (of_decide_eq_true (by kernel_rfl)) (by unfold Func.isWrapper; first | (rw [if_pos (by decide +kernel)]; kernel_rfl) | (rw [if_neg (by decide +kernel)]; exact ⟨rfl, rfl⟩))
    (fun os started H enc _ => lifted os started H enc)
theorem proved : Rows.LinesTellCardSaid :=
  Claim7.holds_tied_plain_at .later [] [.data, .data, .data, .data, .sentinel, .sentinel, .pinned] true (true, "3eed959da84be0b1169b5fb20f568147425eec9a99625c40be5092fbcd7d1ab6") true row_holds (fun _ h => by cases h) (by kernel_rfl) (fun _ h => by cases h) linesTell_row_tie rfl ⟨rfl, rfl⟩ (by kernel_rfl) rfl
    (fun f fn hf hfn => by
      obtain rfl : f = 3 := Option.some.inj ((show Tryd.prog.funcNamed "tollhouse/tollhouselaw26.LinesTell" = some 3 by kernel_rfl).symm.trans hf) |>.symm
      obtain rfl : fn = Tryd.f3 := (Option.some.inj (Tryd.func3.symm.trans hfn)).symm
      exact ⟨by kernel_rfl, fun j t ht => by
        rw [Tryd.params3] at ht
        have hm : t ∈ [9, 24] := by simpa using Array.mem_of_getElem? ht
        have hall : ([9, 24].all fun u => !Tryd.prog.wantsStandIn u) = true := by kernel_rfl
        exact (show Tryd.prog.wantsStandIn t = false by simpa using List.all_eq_true.1 hall t hm)⟩)
    (by kernel_rfl)
#print axioms proved
end Go.Proofs.YtfejbfnjfombhaaDoor.rowTell
namespace Go.Proofs.YtfejbfnjfombhaaDoor
/-- The card, under a short name, for the claim. -/
theorem linesTell_holds : Rows.LinesTellCardSaid := rowTell.proved
end Go.Proofs.YtfejbfnjfombhaaDoor

/- A line's text. -/
import Derived.Test.YtfejbfnjfombhaaDoorLinE
namespace Go.Proofs.YtfejbfnjfombhaaDoor.LinF
open Go.RowKit Go.Sort Go.Shelf Go.Lib Go.Proofs.YtfejbfnjfombhaaDoorW.PrintWords Go.Proofs.YtfejbfnjfombhaaDoorW.PrintLast Go.Proofs.YtfejbfnjfombhaaDoorW.PrintMore Go.Proofs.YtfejbfnjfombhaaDoor.LinA Go.Proofs.YtfejbfnjfombhaaDoor.LinB Go.Proofs.YtfejbfnjfombhaaDoor.LinC Go.Proofs.YtfejbfnjfombhaaDoor.LinD Go.Proofs.YtfejbfnjfombhaaDoor.LinE
set_option linter.unusedVariables false
set_option linter.unusedSimpArgs false

structure Fit (l : Ln) : Prop where
  n0 : -9223372036854775808 ≤ l.n
  n1 : l.n ≤ 9223372036854775807
  t0 : 0 ≤ l.till
  t1 : l.till ≤ 4294967295
  s : l.name.size ≤ 1000
def textB (l : Ln) (c : UInt8) : ByteArray := ofL (textOf l c)
theorem text_any (c : UInt8) (hc : c = 78 ∨ c = 65 ∨ c = 67 ∨ c = 85) (l : Ln) (hl : Fit l) (w : World) (E : Env w) :
    Calls Tryd.prog 22 #[.agg (lnCells l), .int .u8 (c.toNat : Int)] w fun e w' => e = .returned (.string (textB l c)) ∧ Below w.heap.size w w' := by
  have HE := Aside0.mk (E.below (below_alloc (Below.refl _ _) (.cells (lnCells l) 24 (0, 0))) E.big)
  have BA := Aside0.mk (below_alloc (Below.refl w.heap.size w) (.cells (lnCells l) 24 (0, 0)))
  have LA := Aside0.mk (blk_new w (.cells (lnCells l) 24 (0, 0)))
  have HN := Aside0.mk (fun W (h : Env W) => itoa_any l.n hl.n0 hl.n1 W h)
  obtain ⟨u, hu⟩ : ∃ u : Nat, l.till = (u : Int) := ⟨l.till.toNat, by have := hl.t0; omega⟩
  have hu2 : u < 18446744073709551616 := by have := hl.t1; omega
  have HU := Aside0.mk (fun W (h : Env W) => fmt_any u hu2 W h)
  have hwr : IntKind.u64.wrap (u : Int) = (u : Int) := by rw [IntKind.wrap_u64]; omega
  have k1 := (blk_cell LA.out 1).trans (show _ = some (.string l.name) from rfl)
  have k2 := (blk_cell LA.out 2).trans (show _ = some (.int .i64 l.n) from rfl)
  have k3 := (blk_cell LA.out 3).trans (show _ = some (.int .u32 (u : Int)) from by rw [← hu]; rfl)
  have hut : l.till.toNat = u := by omega
  clear hu hl E
  rcases hc with rfl | rfl | rfl | rfl
  · have HT := Aside0.mk (show textB l 78 = l.name by unfold textB; rw [text_N, data_ofL])
    go_enter Tryd.func22, Tryd.ntmps22
    go_wp2_with fail
    go_ret
    exact ⟨by rw [HT.out]; rfl, BA.out⟩
  · have hee := Aside0.mk (show l.name.toList.isEmpty = decide (l.name.data.toList = []) by rw [toList_data, Bool.eq_iff_iff, List.isEmpty_iff, decide_eq_true_iff])
    by_cases hn : l.name.data.toList = []
    · have he : l.name.toList.isEmpty = true := by rw [hee.out, decide_eq_true hn]
      have HT := Aside0.mk (show textB l 65 = ⟨#[42]⟩ by unfold textB; rw [text_A0 _ hn]; rfl)
      clear hn
      go_enter Tryd.func22, Tryd.ntmps22
      go_wp2_with fail
      go_ret
      exact ⟨by rw [HT.out]; rfl, BA.out⟩
    · have he : l.name.toList.isEmpty = false := by rw [hee.out, decide_eq_false hn]
      have HT := Aside0.mk (show textB l 65 = l.name by unfold textB; rw [text_A1 _ hn, data_ofL])
      clear hn
      go_enter Tryd.func22, Tryd.ntmps22
      go_wp2_with fail
      go_ret
      exact ⟨by rw [HT.out]; rfl, BA.out⟩
  · have HT := Aside0.mk (show textB l 67 = ofL (itoa l.n) by unfold textB; rw [text_C])
    go_enter Tryd.func22, Tryd.ntmps22
    go_wp2_with fail
    refine (HN.out _ HE.out).mono ?_
    rintro e w2 ⟨rfl, hb⟩
    have B2 := Aside0.mk (below_step BA.out hb)
    clear hb
    go_wp2_with fail
    go_ret
    exact ⟨by rw [HT.out]; rfl, B2.out⟩
  · have HT := Aside0.mk (show textB l 85 = ofL (decDigits u) by unfold textB; rw [text_U, hut])
    go_enter Tryd.func22, Tryd.ntmps22
    go_wp2_with fail
    refine (HU.out _ HE.out).mono ?_
    rintro e w2 ⟨rfl, hb⟩
    have B2 := Aside0.mk (below_step BA.out hb)
    clear hb
    go_wp2_with fail
    go_ret
    exact ⟨by rw [HT.out]; rfl, B2.out⟩
end Go.Proofs.YtfejbfnjfombhaaDoor.LinF

/- Small contracts of the model's package, for all inputs. -/
import Derived.Test.YtkppnamblmaokaaDoorPModelNonex1
import Derived.Deep.MidRow
namespace Go.Proofs.YtkppnamblmaokaaDoor.ModA
open Go.RowKit Go.Proofs.YtkppnamblmaokaaDoorW.PrintWords Go.Proofs.YtkppnamblmaokaaDoorW.PrintLast Go.Proofs.YtkppnamblmaokaaDoorW.PrintMore
set_option linter.unusedVariables false
set_option linter.unusedSimpArgs false

/-- A block of which the first i bytes are v, the others 0. -/
def fillN (v : Int) (i : Nat) : Array Value := ((List.range 32).map fun j => Value.int .u8 (if j < i then v else 0)).toArray
theorem fillN_size (v : Int) (i : Nat) : (fillN v i).size = 32 := by simp [fillN]
theorem fillN_get (v : Int) (i j : Nat) (h : j < 32) : (fillN v i)[j]? = some (.int .u8 (if j < i then v else 0)) := by simp [fillN, h]
theorem fillN_set (v : Int) (i : Nat) (h : i < 32) : (fillN v i).setIfInBounds i (.int .u8 v) = fillN v (i + 1) := by
  apply Array.ext
  · simp [fillN]
  · intro j h1 h2
    have hj : j < 32 := by simpa [fillN] using h2
    by_cases e : i = j
    · subst e; simp [fillN]
    · have h3 : j < (fillN v i).size := by rw [fillN_size]; exact hj
      rw [Array.getElem_setIfInBounds_ne (hj := h3) (h := e)]
      simp only [fillN, List.getElem_toArray, List.getElem_map, List.getElem_range]
      by_cases c : j < i
      · rw [if_pos c, if_pos (by omega)]
      · rw [if_neg c, if_neg (by omega)]
theorem fillN_one (v : Int) (i : Nat) : (fillN v i).all (·.oneCell') = true := by
  rw [Array.all_eq_true_iff_forall_mem]
  intro x hx
  simp only [fillN, List.mem_toArray, List.mem_map] at hx
  obtain ⟨j, _, rfl⟩ := hx
  rfl
theorem below_setRow {B : Nat} {w W : World} (h : Below B w W) {g : Nat} (hg : B ≤ g) (cs : Array Value) : Below B w (W.setRow g cs) :=
  ⟨h.os, h.tape, h.output, by simpa using h.size, fun k hk => (setRow_other W g k cs (by omega)).trans (h.block k hk)⟩
theorem zeros32 : (fillN 0 0) = #[.int .u8 0, .int .u8 0, .int .u8 0, .int .u8 0, .int .u8 0, .int .u8 0, .int .u8 0, .int .u8 0, .int .u8 0, .int .u8 0, .int .u8 0, .int .u8 0, .int .u8 0, .int .u8 0, .int .u8 0, .int .u8 0, .int .u8 0, .int .u8 0, .int .u8 0, .int .u8 0, .int .u8 0, .int .u8 0, .int .u8 0, .int .u8 0, .int .u8 0, .int .u8 0, .int .u8 0, .int .u8 0, .int .u8 0, .int .u8 0, .int .u8 0, .int .u8 0] := by
  rfl

set_option maxHeartbeats 1000000 in
theorem fill_any (v : Int) (w : World) :
    Calls Tryd.prog 27 #[.int .u8 v] w fun e w' => e = .returned (.agg (fillN v 32)) ∧ Below w.heap.size w w' := by
  have BL := Aside0.mk (below_alloc (below_alloc (Below.refl w.heap.size w) (.cells (fillN 0 0) 32 (0, 0))) (.cells (fillN 0 0) 32 (0, 0)))
  have B2 := Aside0.mk (blk_alloc (blk_new w (.cells (fillN 0 0) 32 (0, 0))) (.cells (fillN 0 0) 32 (0, 0)))
  have B3 := Aside0.mk (blk_new (w.alloc (.cells (fillN 0 0) 32 (0, 0))) (.cells (fillN 0 0) 32 (0, 0)))
  rw [show (w.alloc (.cells (fillN 0 0) 32 (0, 0))).heap.size = w.heap.size + 1 from Array.size_push ..] at B3
  go_enter Tryd.func27, Tryd.ntmps27
  go_wp2_with fail
  rw [← zeros32]
  generalize (w.alloc (.cells (fillN 0 0) 32 (0, 0))).alloc (.cells (fillN 0 0) 32 (0, 0)) = w1 at *
  have g2 := Aside0.mk (Nat.le_refl w.heap.size)
  have g3 : Aside0 (w.heap.size ≤ w.heap.size + 1) := ⟨by omega⟩
  generalize hb0 : w.heap.size = b0 at g2 g3 BL ⊢
  have HB0 := Aside0.mk hb0
  clear hb0
  have B2 : Aside0 (w1.heap[b0]? = some (.cells (fillN 0 0) 32 (0, 0))) := ⟨HB0.out ▸ B2.out⟩
  have B3 : Aside0 (w1.heap[b0 + 1]? = some (.cells (fillN v 0) 32 (0, 0))) := ⟨HB0.out ▸ B3.out⟩
  have n23 : Aside0 (b0 ≠ b0 + 1) := ⟨by omega⟩
  generalize b0 + 1 = b3 at *
  go_loopw [4] (fun iv wr => ∃ i : Nat, i ≤ 32 ∧ iv = .int .i64 i ∧ Aside0 (wr.heap[b0]? = some (.cells (fillN 0 0) 32 (0, 0))) ∧ Aside0 (wr.heap[b3]? = some (.cells (fillN v i) 32 (0, 0))) ∧ Aside0 (Below b0 w wr)) (fun iv _ => 32 - (intOf iv).toNat)
  case atStart => exact ⟨0, by omega, rfl, B2, B3, ⟨HB0.out ▸ BL.out⟩⟩
  case round =>
    clear B2 B3 BL
    obtain ⟨i, hi, rfl, B2, B3, BL⟩ := hrel
    by_cases hlt : i < 32
    · have c : wr.cell? ⟨b3, i, none⟩ = some (.int .u8 0) := (blk_cell B3.out i).trans (by rw [fillN_get v i i hlt, if_neg (by omega)])
      have f := blk_frozen B3.out i
      go_wp2_with fail
      go_roundw
      case measure => simp [intOf]; omega
      case rel => exact ⟨i + 1, by omega, by go_num, ⟨blk_far B2.out (p := ⟨b3, i, none⟩) n23.out _⟩, ⟨blk_put B3.out i _ (fillN_set v i hlt)⟩, ⟨BL.out.setCell g3.out _⟩⟩
    · have : i = 32 := by omega
      subst this
      go_wp2_with (first | (refine wpList_load_row rfl 32 _ rfl b3 rfl 32 (fillN v 32) (0, 0) _ B3.out Tryd.underlying32 rfl (by kernel_rfl) ?_) | (refine wpList_store_row rfl 32 _ _ rfl b0 (fillN v 32) rfl rfl 32 (fillN 0 0) B2.out (by kernel_rfl) (by rw [fillN_size, fillN_size]) (fillN_one v 32) ?_))
      refine bodyPost_ret (results_cell_row rfl _ _ b0 32 (fillN v 32) (0, 0) _ rfl (setRow_heap wr b0 (fillN 0 0) (fillN v 32) 32 (0, 0) B2.out) Tryd.underlying32 rfl (by rw [fillN_size]; kernel_rfl)) rfl ⟨rfl, ?_⟩
      exact HB0.out ▸ below_setRow BL.out g2.out _

end Go.Proofs.YtkppnamblmaokaaDoor.ModA

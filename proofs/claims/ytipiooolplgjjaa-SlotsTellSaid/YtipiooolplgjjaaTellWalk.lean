/- The walk of one law, for all inputs in range. -/
import Derived.Test.YtipiooolplgjjaaTellRef
namespace Go.Proofs.Ytipiooolplgjjaa.TellWalk
open Go.RowKit Go.Proofs.Ytipiooolplgjjaa.PSlotsShare Go.Proofs.YtipiooolplgjjaaW.PrintWords Go.Proofs.YtipiooolplgjjaaW.PrintLast Go.Proofs.YtipiooolplgjjaaW.PrintMore Go.Proofs.Ytipiooolplgjjaa.Grow Go.Proofs.Ytipiooolplgjjaa.TellRef
set_option linter.unusedVariables false

set_option maxHeartbeats 1000000 in
set_option maxRecDepth 100000 in
theorem tell_walk (p a b k : Int) (w : World) (h2 : 0 ≤ a) (h3 : a < 4294967296) (h4 : 0 ≤ b) (h5 : b < 4294967296) :
    Calls Try.prog 6 #[.int .i64 p, .agg #[.int .u32 a, .int .u32 b], .int .i64 k] w fun e w' => e = .returned (.bool true) ∧ Below w.heap.size w w' := by
  have hu46 := Try.underlying46
  have BL := Aside0.mk (below_alloc (Below.refl w.heap.size w) (.cells #[.int .u32 a, .int .u32 b] 46 (0, 0)))
  have BK := Aside0.mk (blk_new w (.cells #[.int .u32 a, .int .u32 b] 46 (0, 0)))
  go_enter Try.func6, Try.ntmps6
  go_wp2_with fail
  generalize w.alloc (.cells #[.int .u32 a, .int .u32 b] 46 (0, 0)) = w1 at *
  generalize hB : w.heap.size = B at BK ⊢
  have HB := Aside0.mk hB
  clear hB
  (with_reducible refine (slots_Next.calls 5 p a _ _ _ (next_any2 h2 h3)).mono ?_)
  rintro e w2 ⟨rfl, hb2⟩
  have E2 : Aside0 (Ext w1 w2) := ⟨hb2⟩
  clear hb2
  have d0 : w2.cell? ⟨B, 0, none⟩ = some (.int .u32 a) := (blk_cell (E2.out.blk BK.out) 0).trans rfl
  go_wp2_with fail
  refine (ref_next_any p a _ h2 h3).mono ?_
  rintro e w3 ⟨rfl, rfl⟩
  clear d0
  go_wp2_with fail
  have F : Aside0 (∀ w', Ext w2 w' → w'.cell? ⟨B, 0, none⟩ = some (.int .u32 a) ∧ w'.cell? ⟨B, 1, none⟩ = some (.int .u32 b)) := ⟨fun w' hw' =>
    ⟨(blk_cell (hw'.blk (E2.out.blk BK.out)) 0).trans rfl, (blk_cell (hw'.blk (E2.out.blk BK.out)) 1).trans rfl⟩⟩
  refine wp_region_ext rfl (by kernel_rfl) ?_
  repeat (first
    | (refine wpQuiet_step (fun K hK => ?_); go_simp; (first | (refine hK _ ?_) | (refine ⟨_, fun _ _ => rfl, hK _ ?_⟩)); clear hK K)
    | (refine wpQuiet_step (fun K hK => ?_); refine q_val (v := ?_) ?_ ?_ ?_; rotate_left; (rfl); (intro w' hw'; have c0 := (F.out w' hw').1; have c1 := (F.out w' hw').2; go_simp; with_reducible rfl); go_simp; refine hK _ ?_; clear hK K)
    | (refine wpQuiet_step (fun K hK => ?_); refine q_call (f := 23) (v := .int .i64 (a % 4)) Try.func23 rfl rfl #[.int .u32 a] ?_ rfl ?_ ?_ ?_; (rfl); (first | (exact Array.map_empty) | (simp only [List.map_toArray, List.map_cons, List.map_nil]; rfl)); (exact fun w' hw' => (slots_Owner.calls a _ w' (owner h2 h3)).mono (fun e w'' ⟨he, hd⟩ => ⟨he, hw'.step hd.below⟩)); go_simp; refine hK _ ?_; clear hK K)
    | (refine wpQuiet_step (fun K hK => ?_); refine q_call (f := 24) (v := .int .i64 (a % 4)) Try.func24 rfl rfl #[.int .u32 a] ?_ rfl ?_ ?_ ?_; (rfl); (first | (exact Array.map_empty) | (simp only [List.map_toArray, List.map_cons, List.map_nil]; rfl)); (exact fun w' hw' => (ref_owner a w' h2 h3).mono (fun e w'' ⟨he, hd⟩ => ⟨he, hd ▸ hw'⟩)); go_simp; refine hK _ ?_; clear hK K)
    | (refine wpQuiet_step (fun K hK => ?_); refine q_call (f := 25) (v := .int .i64 (cval p a b)) Try.func25 rfl rfl #[.int .i64 p, .int .u32 a, .int .u32 b] ?_ rfl ?_ ?_ ?_; (rfl); (first | (exact Array.map_empty) | (simp only [List.map_toArray, List.map_cons, List.map_nil]; rfl)); (exact fun w' hw' => (slots_Count.calls 5 p a b _ w' (count_any h2 h3 h4 h5)).mono (fun e w'' ⟨he, hd⟩ => ⟨he, hw'.step hd⟩)); go_simp; refine hK _ ?_; clear hK K)
    | (refine wpQuiet_step (fun K hK => ?_); refine q_call (f := 26) (v := .int .i64 (cval p a b)) Try.func26 rfl rfl #[.int .i64 p, .int .u32 a, .int .u32 b] ?_ rfl ?_ ?_ ?_; (rfl); (first | (exact Array.map_empty) | (simp only [List.map_toArray, List.map_cons, List.map_nil]; rfl)); (exact fun w' hw' => (ref_count_any p a b w' h2 h3 h4 h5).mono (fun e w'' ⟨he, hd⟩ => ⟨he, hd ▸ hw'⟩)); go_simp; refine hK _ ?_; clear hK K)
    | (refine wpQuiet_step (fun K hK => ?_); refine q_call (f := 27) (v := .int .i64 (bval k)) Try.func27 rfl rfl #[.int .i64 k] ?_ rfl ?_ ?_ ?_; (rfl); (first | (exact Array.map_empty) | (simp only [List.map_toArray, List.map_cons, List.map_nil]; rfl)); (exact fun w' hw' => (slots_Bound.calls k _ w' (bound_any k)).mono (fun e w'' ⟨he, hd⟩ => ⟨he, hw'.step hd.below⟩)); go_simp; refine hK _ ?_; clear hK K)
    | (refine wpQuiet_step (fun K hK => ?_); refine q_call (f := 28) (v := .int .i64 (bval k)) Try.func28 rfl rfl #[.int .i64 k] ?_ rfl ?_ ?_ ?_; (rfl); (first | (exact Array.map_empty) | (simp only [List.map_toArray, List.map_cons, List.map_nil]; rfl)); (exact fun w' hw' => (ref_bound k w').mono (fun e w'' ⟨he, hd⟩ => ⟨he, hd ▸ hw'⟩)); go_simp; refine hK _ ?_; clear hK K)
    | (refine wpQuiet_step (fun K hK => ?_); refine q_call (f := 29) (v := .bool true) Try.func29 rfl rfl #[] ?_ rfl ?_ ?_ ?_; (rfl); (first | (exact Array.map_empty) | (simp only [List.map_toArray, List.map_cons, List.map_nil]; rfl)); (exact fun w' hw' => (tollhouselaw19_wakes.calls 6 _ w' (wakes_yes (by omega))).mono (fun e w'' ⟨he, hd⟩ => ⟨he, hw'.step hd⟩)); go_simp; refine hK _ ?_; clear hK K))
  refine wpQuiet_nil ?_
  intro w4 E4
  go_wp2
  go_ret
  exact ⟨rfl, HB.out ▸ (Ext.step (Ext.step BL.out E2.out.out) E4.out).out⟩

end Go.Proofs.Ytipiooolplgjjaa.TellWalk

/- The walk of one law, for all inputs. -/
import Derived.Test.YtipiooolplgjjaaDeskRef
namespace Go.Proofs.Ytipiooolplgjjaa.TellsWalk
open Go.RowKit Go.Proofs.Ytipiooolplgjjaa.PDeskTurns Go.Proofs.YtipiooolplgjjaaW.PrintWords Go.Proofs.YtipiooolplgjjaaW.PrintLast Go.Proofs.YtipiooolplgjjaaW.PrintMore Go.Proofs.Ytipiooolplgjjaa.Grow Go.Proofs.Ytipiooolplgjjaa.DeskRef
set_option linter.unusedVariables false
set_option linter.unusedSimpArgs false
theorem eqA30 (d : Nat) (w : World) (x0 y0 : Int) (x1 y1 : Int) (x2 y2 : Bool) :
    (Op.equalIn (d + 2) 30 (.agg #[.int .i64 x0, .int .u32 x1, .bool x2]) (.agg #[.int .i64 y0, .int .u32 y1, .bool y2])).run Try.prog w = .ok (x0 == y0 && (x1 == y1 && (x2 == y2))) w := by
  refine eqA_of Try.underlying30 (by kernel_rfl) ?_
  refine eqf_cons (by rfl) (by go_simp; rfl) (by go_simp; rfl) (by go_simp) ?_
  refine eqf_cons (by rfl) (by go_simp; rfl) (by go_simp; rfl) (by go_simp) ?_
  exact eqf_last (by rfl) (by go_simp; rfl) (by go_simp; rfl) (by go_simp)
attribute [local go_sem high] eqA24 eqA27 eqA30
theorem w64 {x : Int} (h : -9223372036854775808 ≤ x) (h' : x < 9223372036854775808) : wrap64 x = x := by
  unfold wrap64; omega
theorem other_f (p e : Int) (b : Bool) : desk_Desk_Other.f p e b = some (oth p) := by
  unfold desk_Desk_Other.f desk_node.f oth
  by_cases c : p = 0
  · subst c; simp only [if_true, Option.bind_some]; rw [w64 (by omega) (by omega)]; rfl
  · rw [if_neg c, if_neg c]
    by_cases d : p = 1
    · subst d; simp only [BEq.rfl, Option.bind_some, if_true]; rw [w64 (by omega) (by omega)]; rfl
    · have : (p == 1) = false := by simpa using d
      rw [this]; simp
theorem may_f (p e : Int) (s : Bool) (n : Int) (up force : Bool) : desk_Desk_May.f 1 p e s n up force = some (mayv p s n up force) := by
  unfold desk_Desk_May.f desk_node.f mayv
  by_cases c : n = 0
  · subst c
    by_cases d : (0 : Int) = p
    · subst d; cases up <;> cases s <;> cases force <;> simp [desk_Desk_May.j0]
    · cases up <;> cases s <;> cases force <;> simp [desk_Desk_May.j0, d]
  · rw [if_neg c]
    by_cases c1 : n = 1
    · subst c1
      by_cases d : (1 : Int) = p
      · subst d; cases up <;> cases s <;> cases force <;> simp [desk_Desk_May.j0]
      · cases up <;> cases s <;> cases force <;> simp [desk_Desk_May.j0, d]
    · have : (n == 1) = false := by simpa using c1
      rw [this]; cases up <;> cases s <;> cases force <;> simp [desk_Desk_May.j0, c, c1]
theorem fresh_f (p e : Int) (s : Bool) (a b c d l : Int) : desk_Fresh.f p e s a b c d l = some ((e + 1) % 4294967296, 0, 1, fd d l s, 0) := by
  unfold desk_Fresh.f desk_view_dirty.f fd
  cases s <;> simp
theorem turn_f (p e : Int) (b : Bool) (n d : Int) : desk_Desk_Turn.f p e b n d = some (n, (e + 1) % 4294967296, (d == 0)) := rfl
theorem alloc_size (w : World) (o : Obj) : (w.alloc o).heap.size = w.heap.size + 1 := Array.size_push ..
theorem wakes_f : tollhouselaw23_wakes.f 1 = some true := by decide +kernel

set_option maxHeartbeats 2000000 in
set_option maxRecDepth 100000 in
theorem tells_walk (p e : Int) (s : Bool) (n : Int) (up force : Bool) (a b c d l : Int) (w : World) :
    Calls Try.prog 3 #[.agg #[.int .i64 p, .int .u32 e, .bool s], .agg #[.int .i64 n, .bool up, .bool force, .int .u32 a, .int .u32 b, .int .u32 c, .int .u16 d, .int .u16 l]] w fun r w' => r = .returned (.bool true) ∧ Below w.heap.size w w' := by
  have hu24 := Try.underlying24
  have hu27 := Try.underlying27
  have hu29 := Try.underlying29
  have hu30 := Try.underlying30
  have BL := Aside0.mk (below_alloc (below_alloc (Below.refl w.heap.size w) (.cells #[.int .i64 p, .int .u32 e, .bool s] 24 (0, 0))) (.cells #[.int .i64 n, .bool up, .bool force, .int .u32 a, .int .u32 b, .int .u32 c, .int .u16 d, .int .u16 l] 29 (0, 0)))
  have B2 := Aside0.mk (blk_alloc (blk_new w (.cells #[.int .i64 p, .int .u32 e, .bool s] 24 (0, 0))) (.cells #[.int .i64 n, .bool up, .bool force, .int .u32 a, .int .u32 b, .int .u32 c, .int .u16 d, .int .u16 l] 29 (0, 0)))
  have B3 := Aside0.mk (blk_new (w.alloc (.cells #[.int .i64 p, .int .u32 e, .bool s] 24 (0, 0))) (.cells #[.int .i64 n, .bool up, .bool force, .int .u32 a, .int .u32 b, .int .u32 c, .int .u16 d, .int .u16 l] 29 (0, 0)))
  go_enter Try.func3, Try.ntmps3
  go_wp2_with fail
  (with_reducible refine (ref_own p e s _).mono ?_)
  rintro r w2 ⟨rfl, hb2⟩
  go_wp2_with fail
  have E2 : Ext ((w.alloc (.cells #[.int .i64 p, .int .u32 e, .bool s] 24 (0, 0))).alloc (.cells #[.int .i64 n, .bool up, .bool force, .int .u32 a, .int .u32 b, .int .u32 c, .int .u16 d, .int .u16 l] 29 (0, 0))) w2 := hb2
  have D2 := Aside0.mk (blk_alloc (E2.blk B2.out) (.cells #[.int .i64 p, .int .u32 e, .bool s] 30 (0, 0)))
  have D3 := Aside0.mk (blk_alloc (E2.blk B3.out) (.cells #[.int .i64 p, .int .u32 e, .bool s] 30 (0, 0)))
  have D5 := Aside0.mk (blk_new w2 (.cells #[.int .i64 p, .int .u32 e, .bool s] 30 (0, 0)))
  have BL3 := Aside0.mk (below_alloc (Ext.step BL.out E2.out).out (.cells #[.int .i64 p, .int .u32 e, .bool s] 30 (0, 0)))
  have D3' : Aside0 ((w2.alloc (.cells #[.int .i64 p, .int .u32 e, .bool s] 30 (0, 0))).heap[w.heap.size + 1]? = some (.cells #[.int .i64 n, .bool up, .bool force, .int .u32 a, .int .u32 b, .int .u32 c, .int .u16 d, .int .u16 l] 29 (0, 0))) := ⟨by have := D3.out; rw [alloc_size w] at this; exact this⟩
  clear E2 hb2 B2 B3 D3 BL
  generalize w2.alloc (.cells #[.int .i64 p, .int .u32 e, .bool s] 30 (0, 0)) = w3 at *
  generalize w2.heap.size = b5 at *
  generalize hb2 : w.heap.size = b2 at D2 D3' ⊢
  have HB2 := Aside0.mk hb2
  clear hb2
  generalize b2 + 1 = b3 at *
  have F : Aside0 (∀ w', Ext w3 w' → (w'.cell? ⟨b2, 0, none⟩ = some (.int .i64 p) ∧ w'.cell? ⟨b2, 1, none⟩ = some (.int .u32 e) ∧ w'.cell? ⟨b2, 2, none⟩ = some (.bool s)) ∧
      (w'.cell? ⟨b5, 0, none⟩ = some (.int .i64 p) ∧ w'.cell? ⟨b5, 1, none⟩ = some (.int .u32 e) ∧ w'.cell? ⟨b5, 2, none⟩ = some (.bool s)) ∧
      (w'.cell? ⟨b3, 0, none⟩ = some (.int .i64 n) ∧ w'.cell? ⟨b3, 1, none⟩ = some (.bool up) ∧ w'.cell? ⟨b3, 2, none⟩ = some (.bool force) ∧ w'.cell? ⟨b3, 3, none⟩ = some (.int .u32 a) ∧ w'.cell? ⟨b3, 4, none⟩ = some (.int .u32 b) ∧ w'.cell? ⟨b3, 5, none⟩ = some (.int .u32 c) ∧ w'.cell? ⟨b3, 6, none⟩ = some (.int .u16 d) ∧ w'.cell? ⟨b3, 7, none⟩ = some (.int .u16 l))) := ⟨fun w' hw' => by
    have k2 := hw'.blk D2.out
    have k3 := hw'.blk D3'.out
    have k5 := hw'.blk D5.out
    exact ⟨⟨(blk_cell k2 0).trans rfl, (blk_cell k2 1).trans rfl, (blk_cell k2 2).trans rfl⟩, ⟨(blk_cell k5 0).trans rfl, (blk_cell k5 1).trans rfl, (blk_cell k5 2).trans rfl⟩,
      (blk_cell k3 0).trans rfl, (blk_cell k3 1).trans rfl, (blk_cell k3 2).trans rfl, (blk_cell k3 3).trans rfl, (blk_cell k3 4).trans rfl, (blk_cell k3 5).trans rfl, (blk_cell k3 6).trans rfl, (blk_cell k3 7).trans rfl⟩⟩
  refine wp_region_ext rfl (by kernel_rfl) ?_
  repeat (first
    | (refine wpQuiet_step (fun K hK => ?_); go_simp; (first | (refine hK _ ?_) | (refine ⟨_, fun _ _ => rfl, hK _ ?_⟩)); clear hK K)
    | (refine wpQuiet_step (fun K hK => ?_); refine q_val (v := ?_) ?_ ?_ ?_; rotate_left; (rfl); (intro w' hw'; obtain ⟨⟨c0, c1, c2⟩, ⟨c3, c4, c5⟩, c6, c7, c8, c9, c10, c11, c12, c13⟩ := F.out w' hw'; go_simp; with_reducible rfl); go_simp; refine hK _ ?_; clear hK K)
    | (refine wpQuiet_step (fun K hK => ?_); refine q_call (f := 11) (v := .int .i64 (oth p)) Try.func11 rfl rfl #[.agg #[.int .i64 p, .int .u32 e, .bool s]] ?_ rfl ?_ ?_ ?_; (rfl); (first | (exact Array.map_empty) | (simp only [List.map_toArray, List.map_cons, List.map_nil]; rfl)); (exact fun w' hw' => (desk_Desk_Other.calls p e s _ w' (other_f p e s)).mono (fun e w'' ⟨he, hd⟩ => ⟨he, hw'.step hd⟩)); go_simp; refine hK _ ?_; clear hK K)
    | (refine wpQuiet_step (fun K hK => ?_); refine q_call (f := 12) (v := .int .i64 (oth p)) Try.func12 rfl rfl #[.agg #[.int .i64 p, .int .u32 e, .bool s]] ?_ rfl ?_ ?_ ?_; (rfl); (first | (exact Array.map_empty) | (simp only [List.map_toArray, List.map_cons, List.map_nil]; rfl)); (exact fun w' hw' => (ref_other p e s w').mono (fun e w'' ⟨he, hd⟩ => ⟨he, hw'.step hd⟩)); go_simp; refine hK _ ?_; clear hK K)
    | (refine wpQuiet_step (fun K hK => ?_); refine q_call (f := 13) (v := .int .i64 (mayv p s n up force)) Try.func13 rfl rfl #[.agg #[.int .i64 p, .int .u32 e, .bool s], .int .i64 n, .bool up, .bool force] ?_ rfl ?_ ?_ ?_; (rfl); (first | (exact Array.map_empty) | (simp only [List.map_toArray, List.map_cons, List.map_nil]; rfl)); (exact fun w' hw' => (desk_Desk_May.calls 1 p e s n up force _ w' (may_f p e s n up force)).mono (fun e w'' ⟨he, hd⟩ => ⟨he, hw'.step hd⟩)); go_simp; refine hK _ ?_; clear hK K)
    | (refine wpQuiet_step (fun K hK => ?_); refine q_call (f := 14) (v := .int .i64 (mayv p s n up force)) Try.func14 rfl rfl #[.agg #[.int .i64 p, .int .u32 e, .bool s], .int .i64 n, .bool up, .bool force] ?_ rfl ?_ ?_ ?_; (rfl); (first | (exact Array.map_empty) | (simp only [List.map_toArray, List.map_cons, List.map_nil]; rfl)); (exact fun w' hw' => (ref_may p e s n up force w').mono (fun e w'' ⟨he, hd⟩ => ⟨he, hw'.step hd⟩)); go_simp; refine hK _ ?_; clear hK K)
    | (refine wpQuiet_step (fun K hK => ?_); refine q_call (f := 15) (v := .agg #[.int .u32 ((e + 1) % 4294967296), .int .u32 0, .int .u32 1, .int .u16 (fd d l s), .int .u16 0]) Try.func15 rfl rfl #[.agg #[.int .i64 p, .int .u32 e, .bool s], .agg #[.int .u32 a, .int .u32 b, .int .u32 c, .int .u16 d, .int .u16 l]] ?_ rfl ?_ ?_ ?_; (rfl); (first | (exact Array.map_empty) | (simp only [List.map_toArray, List.map_cons, List.map_nil]; rfl)); (exact fun w' hw' => (desk_Fresh.calls p e s a b c d l _ _ _ _ _ w' (fresh_f p e s a b c d l)).mono (fun e w'' ⟨he, hd⟩ => ⟨he, hw'.step hd⟩)); go_simp; refine hK _ ?_; clear hK K)
    | (refine wpQuiet_step (fun K hK => ?_); refine q_call (f := 16) (v := .agg #[.int .u32 ((e + 1) % 4294967296), .int .u32 0, .int .u32 1, .int .u16 (fd d l s), .int .u16 0]) Try.func16 rfl rfl #[.agg #[.int .i64 p, .int .u32 e, .bool s], .agg #[.int .u32 a, .int .u32 b, .int .u32 c, .int .u16 d, .int .u16 l]] ?_ rfl ?_ ?_ ?_; (rfl); (first | (exact Array.map_empty) | (simp only [List.map_toArray, List.map_cons, List.map_nil]; rfl)); (exact fun w' hw' => (ref_fresh p e s a b c d l w').mono (fun e w'' ⟨he, hd⟩ => ⟨he, hw'.step hd⟩)); go_simp; refine hK _ ?_; clear hK K)
    | (refine wpQuiet_step (fun K hK => ?_); refine q_call (f := 17) (v := .agg #[.int .i64 n, .int .u32 ((e + 1) % 4294967296), .bool (d == 0)]) Try.func17 rfl rfl #[.agg #[.int .i64 p, .int .u32 e, .bool s], .int .i64 n, .int .u16 d] ?_ rfl ?_ ?_ ?_; (rfl); (first | (exact Array.map_empty) | (simp only [List.map_toArray, List.map_cons, List.map_nil]; rfl)); (exact fun w' hw' => (desk_Desk_Turn.calls p e s n d _ _ _ w' (turn_f ..)).mono (fun e w'' ⟨he, hd⟩ => ⟨he, hw'.step hd⟩)); go_simp; refine hK _ ?_; clear hK K)
    | (refine wpQuiet_step (fun K hK => ?_); refine q_call (f := 10) (v := .agg #[.int .i64 n, .int .u32 ((e + 1) % 4294967296), .bool (d == 0)]) Try.func10 rfl rfl #[.agg #[.int .i64 n, .int .u32 ((e + 1) % 4294967296), .bool (d == 0)]] ?_ rfl ?_ ?_ ?_; (rfl); (first | (exact Array.map_empty) | (simp only [List.map_toArray, List.map_cons, List.map_nil]; rfl)); (exact fun w' hw' => (ref_own n ((e + 1) % 4294967296) (d == 0) w').mono (fun e w'' ⟨he, hd⟩ => ⟨he, hw'.step hd⟩)); go_simp; refine hK _ ?_; clear hK K)
    | (refine wpQuiet_step (fun K hK => ?_); refine q_call (f := 18) (v := .agg #[.int .i64 n, .int .u32 ((e + 1) % 4294967296), .bool (d == 0)]) Try.func18 rfl rfl #[.agg #[.int .i64 p, .int .u32 e, .bool s], .int .i64 n, .int .u16 d] ?_ rfl ?_ ?_ ?_; (rfl); (first | (exact Array.map_empty) | (simp only [List.map_toArray, List.map_cons, List.map_nil]; rfl)); (exact fun w' hw' => (ref_turn p e s n d w').mono (fun e w'' ⟨he, hd⟩ => ⟨he, hw'.step hd⟩)); go_simp; refine hK _ ?_; clear hK K)
    | (refine wpQuiet_step (fun K hK => ?_); refine q_call (f := 19) (v := .bool true) Try.func19 rfl rfl #[] ?_ rfl ?_ ?_ ?_; (rfl); (first | (exact Array.map_empty) | (simp only [List.map_toArray, List.map_cons, List.map_nil]; rfl)); (exact fun w' hw' => (tollhouselaw23_wakes.calls 1 _ w' wakes_f).mono (fun e w'' ⟨he, hd⟩ => ⟨he, hw'.step hd⟩)); go_simp; refine hK _ ?_; clear hK K))
  refine wpQuiet_nil ?_
  intro w4 E4
  go_wp2
  go_ret
  exact ⟨rfl, HB2.out ▸ (Ext.step BL3.out E4.out).out⟩

end Go.Proofs.Ytipiooolplgjjaa.TellsWalk

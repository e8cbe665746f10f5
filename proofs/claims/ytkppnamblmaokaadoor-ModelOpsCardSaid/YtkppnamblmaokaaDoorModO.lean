/- What a nil model answers. -/
import Derived.Test.YtkppnamblmaokaaDoorModN
namespace Go.Proofs.YtkppnamblmaokaaDoor.ModO
open Go.RowKit Go.Proofs.YtkppnamblmaokaaDoorW.PrintWords Go.Proofs.YtkppnamblmaokaaDoorW.PrintLast Go.Proofs.YtkppnamblmaokaaDoorW.PrintMore Go.Proofs.YtkppnamblmaokaaDoor.ModA Go.Proofs.YtkppnamblmaokaaDoor.ModB Go.Proofs.YtkppnamblmaokaaDoor.ModC Go.Proofs.YtkppnamblmaokaaDoor.ModF Go.Proofs.YtkppnamblmaokaaDoor.ModG
set_option linter.unusedVariables false
set_option linter.unusedSimpArgs false

theorem gone_nil (w : World) (name : ByteArray) : Calls Tryd.prog 12 #[.pointer none, .string name] w fun e w' => e = .returned (.int .i64 1) ∧ Below w.heap.size w w' := by
  go_enter Tryd.func12, Tryd.ntmps12
  go_wp2
  go_ret
  exact ⟨rfl, Below.refl _ _⟩
theorem make_nil (w : World) (name : ByteArray) (n : Int) : Calls Tryd.prog 10 #[.pointer none, .string name, .int .i64 n] w fun e w' => e = .returned (.int .i64 1) ∧ Below w.heap.size w w' := by
  go_enter Tryd.func10, Tryd.ntmps10
  go_wp2
  go_ret
  exact ⟨rfl, Below.refl _ _⟩
theorem names_nil (w : World) : Calls Tryd.prog 18 #[.pointer none] w fun e w' => e = .returned (.slice none 0 0) ∧ Below w.heap.size w w' := by
  go_enter Tryd.func18, Tryd.ntmps18
  go_wp2
  go_ret
  exact ⟨rfl, Below.refl _ _⟩
theorem free_nil (w : World) : Calls Tryd.prog 20 #[.pointer none] w fun e w' => e = .returned (.int .i64 0) ∧ Below w.heap.size w w' := by
  go_enter Tryd.func20, Tryd.ntmps20
  go_wp2
  go_ret
  exact ⟨rfl, Below.refl _ _⟩
theorem block_nil (w : World) (name : ByteArray) (at_ : Int) : Calls Tryd.prog 33 #[.pointer none, .string name, .int .i64 at_] w fun r w' => r = .returned (.tuple #[.pointer none, .int .i64 1]) ∧ Below w.heap.size w w' := by
  go_enter Tryd.func33, Tryd.ntmps33
  go_wp2
  go_ret2
  exact ⟨rfl, Below.refl _ _⟩
set_option maxHeartbeats 1000000 in
theorem read_nil_of {w : World} (name : ByteArray) (at_ e : Int) (he : e ≠ 0)
    (hc : Calls Tryd.prog 33 #[.pointer none, .string name, .int .i64 at_] (w.alloc (.cells (fillN 0 0) 32 (0, 0))) fun r w' => r = .returned (.tuple #[.pointer none, .int .i64 e]) ∧ Below (w.alloc (.cells (fillN 0 0) 32 (0, 0))).heap.size (w.alloc (.cells (fillN 0 0) 32 (0, 0))) w') :
    Calls Tryd.prog 16 #[.pointer none, .string name, .int .i64 at_] w fun r w' => r = .returned (.tuple #[.agg (fillN 0 0), .int .i64 e]) ∧ Below w.heap.size w w' := by
  have HC := Aside0.mk hc
  have BL := Aside0.mk (below_alloc (Below.refl w.heap.size w) (.cells (fillN 0 0) 32 (0, 0)))
  have B6 := Aside0.mk (blk_new w (.cells (fillN 0 0) 32 (0, 0)))
  have heb : (e == 0) = false := by simp [he]
  have hen : (e != 0) = true := by simp [he]
  clear hc he
  go_enter Tryd.func16, Tryd.ntmps16
  go_wp2_with fail
  rw [← zeros32]
  refine HC.out.mono ?_
  rintro r w1 ⟨rfl, hb⟩
  have B6' := Aside0.mk (blk_below B6.out hb)
  have BL' := Aside0.mk (below_step BL.out hb)
  clear hb
  go_wp2_with (refine wpList_store_row rfl 32 _ _ rfl w.heap.size (fillN 0 0) rfl rfl 32 (fillN 0 0) B6'.out (by kernel_rfl) rfl (fillN_one 0 0) ?_)
  refine bodyPost_ret (results_ct rfl _ _ w.heap.size 32 (fillN 0 0) (0, 0) _ rfl (setRow_heap w1 w.heap.size (fillN 0 0) (fillN 0 0) 32 (0, 0) B6'.out) Tryd.underlying32 rfl (by kernel_rfl)) rfl ⟨rfl, ?_⟩
  exact below_setRow BL'.out (Nat.le_refl _) _

set_option maxHeartbeats 1000000 in
theorem write_nil_of {w : World} (name : ByteArray) (at_ e : Int) (d : Array Value) (he : e ≠ 0)
    (hc : Calls Tryd.prog 33 #[.pointer none, .string name, .int .i64 at_] (w.alloc (.cells d 32 (0, 0))) fun r w' => r = .returned (.tuple #[.pointer none, .int .i64 e]) ∧ Below (w.alloc (.cells d 32 (0, 0))).heap.size (w.alloc (.cells d 32 (0, 0))) w') :
    Calls Tryd.prog 15 #[.pointer none, .string name, .int .i64 at_, .agg d] w fun r w' => r = .returned (.int .i64 e) ∧ Below w.heap.size w w' := by
  have HC := Aside0.mk hc
  have BL := Aside0.mk (below_alloc (Below.refl w.heap.size w) (.cells d 32 (0, 0)))
  have heb : (e == 0) = false := by simp [he]
  clear hc he
  go_enter Tryd.func15, Tryd.ntmps15
  go_wp2_with fail
  refine HC.out.mono ?_
  rintro r w1 ⟨rfl, hb⟩
  have BL' := Aside0.mk (below_step BL.out hb)
  clear hb
  go_wp2
  go_ret
  exact ⟨rfl, BL'.out⟩

theorem read_nil (w : World) (name : ByteArray) (at_ : Int) : Calls Tryd.prog 16 #[.pointer none, .string name, .int .i64 at_] w fun r w' => r = .returned (.tuple #[.agg (fillN 0 0), .int .i64 1]) ∧ Below w.heap.size w w' :=
  read_nil_of name at_ 1 (by decide) (block_nil _ name at_)
theorem write_nil (w : World) (name : ByteArray) (at_ : Int) (d : Array Value) : Calls Tryd.prog 15 #[.pointer none, .string name, .int .i64 at_, .agg d] w fun r w' => r = .returned (.int .i64 1) ∧ Below w.heap.size w w' :=
  write_nil_of name at_ 1 d (by decide) (block_nil _ name at_)

end Go.Proofs.YtkppnamblmaokaaDoor.ModO

/- What wakes() answers: true. -/
import Derived.Test.YtkppnamblmaokaaDoorModS
import Derived.Great.BuildSlice
namespace Go.Proofs.YtkppnamblmaokaaDoor.ModT
open Go.RowKit Go.Proofs.YtkppnamblmaokaaDoorW.PrintWords Go.Proofs.YtkppnamblmaokaaDoorW.PrintLast Go.Proofs.YtkppnamblmaokaaDoorW.PrintMore Go.Proofs.YtkppnamblmaokaaDoor.ModA Go.Proofs.YtkppnamblmaokaaDoor.ModB Go.Proofs.YtkppnamblmaokaaDoor.ModC Go.Proofs.YtkppnamblmaokaaDoor.ModD Go.Proofs.YtkppnamblmaokaaDoor.ModE Go.Proofs.YtkppnamblmaokaaDoor.ModF Go.Proofs.YtkppnamblmaokaaDoor.ModG Go.Proofs.YtkppnamblmaokaaDoor.ModH Go.Proofs.YtkppnamblmaokaaDoor.ModI Go.Proofs.YtkppnamblmaokaaDoor.ModJ Go.Proofs.YtkppnamblmaokaaDoor.ModK Go.Proofs.YtkppnamblmaokaaDoor.ModL Go.Proofs.YtkppnamblmaokaaDoor.ModN Go.Proofs.YtkppnamblmaokaaDoor.ModO Go.Proofs.YtkppnamblmaokaaDoor.ModP Go.Proofs.YtkppnamblmaokaaDoor.ModQ Go.Proofs.YtkppnamblmaokaaDoor.ModR Go.Proofs.YtkppnamblmaokaaDoor.ModS
set_option linter.unusedVariables false
set_option linter.unusedSimpArgs false

def seven : List Int := List.replicate 32 7
def W1 : List Vol := [⟨⟨#[97, 98]⟩, [zero32, zero32]⟩]
def W2 : List Vol := [⟨⟨#[97, 98]⟩, [zero32, seven]⟩]
theorem seven_blk : fillN 7 32 = blkArr seven := by kernel_rfl
theorem below_of_moves {base : Nat} {w w' : World} {mb : Nat} {L : List Vol} {gs gs' : List Nat} {v v' : Value} (r : Rep base w mb L gs v) (h : Moves (foot mb gs v) (foot mb gs' v') w w') : Below base w w' :=
  h.below (rep_foot_ge r) (Nat.le_of_lt (Nat.lt_of_le_of_lt r.ge (blk_lt r.m)))
theorem f1 : makeRes [] ⟨#[97, 98]⟩ 2 = 0 := by kernel_rfl
theorem f1' : makeL [] ⟨#[97, 98]⟩ 2 = W1 := by kernel_rfl
theorem f2 : makeRes W1 ⟨#[97, 98]⟩ 2 = 16 := by kernel_rfl
theorem f3 : makeRes W1 ⟨#[99]⟩ 5 = 17 := by kernel_rfl
theorem f4 : atRes W1 ⟨#[97, 98]⟩ 1 = 0 := by kernel_rfl
theorem f4' : writeL W1 ⟨#[97, 98]⟩ 1 seven = W2 := by kernel_rfl
theorem f5 : atRes W2 ⟨#[97, 98]⟩ 2 = 17 := by kernel_rfl
theorem f6 : atRes W2 ⟨#[97, 98]⟩ 1 = 0 := by kernel_rfl
theorem f6' : readVal W2 ⟨#[97, 98]⟩ 1 = seven := by kernel_rfl
theorem f7 : atRes W2 ⟨#[97, 98]⟩ 0 = 0 := by kernel_rfl
theorem f7' : readVal W2 ⟨#[97, 98]⟩ 0 = zero32 := by kernel_rfl
theorem f8 : freeOf W2 = 9 := by kernel_rfl
theorem f9 : freeOf [] = 11 := by kernel_rfl
theorem f10 : goneRes W2 ⟨#[99]⟩ = 16 := by kernel_rfl
theorem f10' : goneL W2 ⟨#[99]⟩ = W2 := by kernel_rfl
theorem f11 : goneRes W2 ⟨#[97, 98]⟩ = 0 := by kernel_rfl
theorem f11' : goneL W2 ⟨#[97, 98]⟩ = [] := by kernel_rfl
section
variable {base : Nat} {w : World} {mb : Nat} {gs : List Nat} {v : Value}
theorem mk1 (r : Rep base w mb [] gs v) : Calls Tryd.prog 10 #[.pointer (some ⟨mb, 0, none⟩), .string ⟨#[97, 98]⟩, .int .i64 2] w fun e w' => e = .returned (.int .i64 0) ∧ ∃ gs' v', Rep base w' mb W1 gs' v' ∧ Below base w w' := by
  have := make_any r ⟨#[97, 98]⟩ 2 (by decide)
  rw [f1, f1'] at this
  exact this.mono fun e w' ⟨he, gs', v', R, M⟩ => ⟨he, gs', v', R, below_of_moves r M⟩
theorem mk2 (r : Rep base w mb W1 gs v) : Calls Tryd.prog 10 #[.pointer (some ⟨mb, 0, none⟩), .string ⟨#[97, 98]⟩, .int .i64 2] w fun e w' => e = .returned (.int .i64 16) ∧ Below w.heap.size w w' := by
  have := make_err r ⟨#[97, 98]⟩ 2 (by decide) (by rw [f2]; decide)
  rwa [f2] at this
theorem mk3 (r : Rep base w mb W1 gs v) : Calls Tryd.prog 10 #[.pointer (some ⟨mb, 0, none⟩), .string ⟨#[99]⟩, .int .i64 5] w fun e w' => e = .returned (.int .i64 17) ∧ Below w.heap.size w w' := by
  have := make_err r ⟨#[99]⟩ 5 (by decide) (by rw [f3]; decide)
  rwa [f3] at this
theorem fill7 (w : World) : Calls Tryd.prog 27 #[.int .u8 7] w fun e w' => e = .returned (.agg (blkArr seven)) ∧ Below w.heap.size w w' := by
  rw [← seven_blk]; exact fill_any 7 w
theorem wr1 (r : Rep base w mb W1 gs v) : Calls Tryd.prog 15 #[.pointer (some ⟨mb, 0, none⟩), .string ⟨#[97, 98]⟩, .int .i64 1, .agg (blkArr seven)] w fun e w' => e = .returned (.int .i64 0) ∧ Rep base w' mb W2 gs v ∧ Below base w w' := by
  have := write_any r ⟨#[97, 98]⟩ 1 seven rfl
  rw [f4, f4'] at this
  exact this.mono fun e w' ⟨he, R, M⟩ => ⟨he, R, below_of_moves r M⟩
theorem wr2 (r : Rep base w mb W2 gs v) : Calls Tryd.prog 15 #[.pointer (some ⟨mb, 0, none⟩), .string ⟨#[97, 98]⟩, .int .i64 2, .agg (blkArr seven)] w fun e w' => e = .returned (.int .i64 17) ∧ Below w.heap.size w w' := by
  have := write_err r ⟨#[97, 98]⟩ 2 _ (blkArr seven) (by rw [f5]; decide) (block_no17 (rep_alloc r _) ⟨#[97, 98]⟩ 2 (by rw [f5]; decide))
  rwa [f5] at this
theorem rd1 (r : Rep base w mb W2 gs v) : Calls Tryd.prog 16 #[.pointer (some ⟨mb, 0, none⟩), .string ⟨#[97, 98]⟩, .int .i64 1] w fun e w' => e = .returned (.tuple #[.agg (blkArr seven), .int .i64 0]) ∧ Below w.heap.size w w' := by
  have := read_any r ⟨#[97, 98]⟩ 1
  rwa [f6, f6'] at this
theorem rd0 (r : Rep base w mb W2 gs v) : Calls Tryd.prog 16 #[.pointer (some ⟨mb, 0, none⟩), .string ⟨#[97, 98]⟩, .int .i64 0] w fun e w' => e = .returned (.tuple #[.agg (blkArr zero32), .int .i64 0]) ∧ Below w.heap.size w w' := by
  have := read_any r ⟨#[97, 98]⟩ 0
  rwa [f7, f7'] at this
theorem fr9 (r : Rep base w mb W2 gs v) : Calls Tryd.prog 20 #[.pointer (some ⟨mb, 0, none⟩)] w fun e w' => e = .returned (.int .i64 9) ∧ Below w.heap.size w w' := by
  have := free_any r
  rwa [f8] at this
theorem fr11 (r : Rep base w mb [] gs v) : Calls Tryd.prog 20 #[.pointer (some ⟨mb, 0, none⟩)] w fun e w' => e = .returned (.int .i64 11) ∧ Below w.heap.size w w' := by
  have := free_any r
  rwa [f9] at this
theorem nm (r : Rep base w mb W2 gs v) : Calls Tryd.prog 18 #[.pointer (some ⟨mb, 0, none⟩)] w fun e w' => ∃ u, e = .returned u ∧ TRow w' u [⟨#[97, 98]⟩] ∧ Below w.heap.size w w' :=
  (names_any r).mono fun e w' ⟨u, he, own, hb⟩ => ⟨u, he, trow_own (xs := [⟨#[97, 98]⟩]) own rfl, hb⟩
theorem tx {u1 u2 : Value} {x : ByteArray} (h1 : TRow w u1 [x]) (h2 : TRow w u2 [x]) : Calls Tryd.prog 17 #[u1, u2] w fun e w' => e = .returned (.bool true) ∧ Below w.heap.size w w' := by
  have := texts_any h1 h2
  simpa using this
theorem gn1 (r : Rep base w mb W2 gs v) : Calls Tryd.prog 12 #[.pointer (some ⟨mb, 0, none⟩), .string ⟨#[99]⟩] w fun e w' => e = .returned (.int .i64 16) ∧ Below w.heap.size w w' := gone_err r ⟨#[99]⟩ (by
  have : idx ⟨#[99]⟩ (W2.map (·.name)) = -1 := by kernel_rfl
  omega)
theorem gn2 (r : Rep base w mb W2 gs v) : Calls Tryd.prog 12 #[.pointer (some ⟨mb, 0, none⟩), .string ⟨#[97, 98]⟩] w fun e w' => e = .returned (.int .i64 0) ∧ ∃ gs' v', Rep base w' mb [] gs' v' ∧ Below base w w' := by
  have := gone_any r ⟨#[97, 98]⟩
  rw [f11, f11'] at this
  exact this.mono fun e w' ⟨he, gs', v', R, M⟩ => ⟨he, gs', v', R, below_of_moves r M⟩
end
theorem below_on {base : Nat} {w w1 w2 : World} (hB : w.heap.size = base) (h : Below base w w1) (k : Below w1.heap.size w1 w2) : Below base w w2 := by subst hB; exact below_step h k
theorem trow_one {w : World} {g : Nat} {x : ByteArray} {t : TypeId} (h : w.heap[g]? = some (.cells #[.string x] t (0, 0))) : TRow w (.slice (some ⟨g, 0, none⟩) 1 1) [x] :=
  ⟨some ⟨g, 0, none⟩, 1, rfl, by simp, by unfold maxLen; omega, fun _ => ⟨g, rfl, fun j y hy => by
    match j, hy with
    | 0, hy => simp at hy; subst hy; exact (blk_cell h 0).trans rfl⟩⟩
theorem run_load_row {P : Program} {o : Oper} {a : Act} {w : World} {ty : TypeId} {x : Operand} (ho : o.op = .load ty x) {g : Nat} (hx : a.eval x = .pointer (some ⟨g, 0, none⟩)) {t : TypeId} {cs : Array Value} {fr : Nat × Nat} {d : TypeDesc}
    (hg : w.heap[g]? = some (.cells cs t fr)) (hu : P.underlying ty = some d) (hd : (match d with | .struct _ | .array _ _ => true | _ => false) = true) (hi : (P.info? ty).map (·.size) = some cs.size) :
    (execOp a.eval o).run P w = .ok (.value (.agg cs)) w := by
  unfold execOp
  simp only [ho, hx, Instr.loadAt, Instr.sureAddr, Sem.run_bind, Sem.run_pure, Result.andThen_ok, run_loadVar_row w g t ty cs fr d hg hu hd hi]
theorem eq_seven (w : World) : (Op.equalIn 10000 32 (.agg (blkArr seven)) (.agg (blkArr seven))).run Tryd.prog w = .ok true w := by rw [eq32 seven seven rfl rfl]; simp
theorem eq_zero (w : World) : (Op.equalIn 10000 32 (.agg (blkArr zero32)) (.agg #[.int .u8 0, .int .u8 0, .int .u8 0, .int .u8 0, .int .u8 0, .int .u8 0, .int .u8 0, .int .u8 0, .int .u8 0, .int .u8 0, .int .u8 0, .int .u8 0, .int .u8 0, .int .u8 0, .int .u8 0, .int .u8 0, .int .u8 0, .int .u8 0, .int .u8 0, .int .u8 0, .int .u8 0, .int .u8 0, .int .u8 0, .int .u8 0, .int .u8 0, .int .u8 0, .int .u8 0, .int .u8 0, .int .u8 0, .int .u8 0, .int .u8 0, .int .u8 0])).run Tryd.prog w = .ok true w := by
  rw [← zeros32, zero_blk, eq32 zero32 zero32 rfl rfl]; simp

set_option maxHeartbeats 4000000 in
set_option maxRecDepth 100000 in
theorem wakes_any (w : World) : Calls Tryd.prog 8 #[] w fun e w' => e = .returned (.bool true) ∧ Below w.heap.size w w' := by
  have NW := Aside0.mk (new_any w.heap.size w (Nat.le_refl _))
  generalize hbase : w.heap.size = base at NW
  have HB := Aside0.mk hbase
  clear hbase
  go_enter Tryd.func8, Tryd.ntmps8
  go_wp2_with fail
  refine NW.out.mono ?_
  rintro e w1 ⟨rfl, R1, hb⟩
  have R := Aside0.mk R1
  have BL : Aside0 (Below base w w1) := ⟨hb⟩
  clear R1 hb NW
  go_wp2_with fail
  refine (mk1 R.out).mono ?_
  rintro e w2 ⟨rfl, gs2, v2, R2, hb⟩
  replace R := Aside0.mk R2
  replace BL := Aside0.mk (BL.out.trans hb)
  clear R2 hb
  go_wp2_with fail
  refine (mk2 R.out).mono ?_
  rintro e w3 ⟨rfl, hb⟩
  replace R := Aside0.mk (R.out.below hb)
  replace BL : Aside0 (Below base w w3) := ⟨below_on HB.out BL.out hb⟩
  clear hb
  go_wp2_with fail
  refine (mk3 R.out).mono ?_
  rintro e w4 ⟨rfl, hb⟩
  replace R := Aside0.mk (R.out.below hb)
  replace BL : Aside0 (Below base w w4) := ⟨below_on HB.out BL.out hb⟩
  clear hb
  go_wp2_with fail
  refine (fill7 _).mono ?_
  rintro e w5 ⟨rfl, hb⟩
  replace R := Aside0.mk (R.out.below hb)
  replace BL : Aside0 (Below base w w5) := ⟨below_on HB.out BL.out hb⟩
  clear hb
  go_wp2_with fail
  refine (wr1 R.out).mono ?_
  rintro e w6 ⟨rfl, R6, hb⟩
  replace R := Aside0.mk R6
  replace BL := Aside0.mk (BL.out.trans hb)
  clear R6 hb
  go_wp2_with fail
  refine (fill7 _).mono ?_
  rintro e w7 ⟨rfl, hb⟩
  replace R := Aside0.mk (R.out.below hb)
  replace BL : Aside0 (Below base w w7) := ⟨below_on HB.out BL.out hb⟩
  clear hb
  go_wp2_with fail
  refine (wr2 R.out).mono ?_
  rintro e w8 ⟨rfl, hb⟩
  replace R := Aside0.mk (R.out.below hb)
  replace BL : Aside0 (Below base w w8) := ⟨below_on HB.out BL.out hb⟩
  clear hb
  go_wp2_with fail
  refine (rd1 R.out).mono ?_
  rintro e w9 ⟨rfl, hb⟩
  replace R := Aside0.mk (R.out.below hb)
  replace BL : Aside0 (Below base w w9) := ⟨below_on HB.out BL.out hb⟩
  clear hb
  have B5 := Aside0.mk (blk_new w9 (.cells (fillN 0 0) 32 (0, 0)))
  go_wp2_with (first | (refine wpList_store_row rfl 32 _ _ rfl w9.heap.size (blkArr seven) rfl rfl 32 _ (zeros32 ▸ B5.out) (by kernel_rfl) (by kernel_rfl) (blkArr_one seven) (stop ?_)))
  unfold Stop
  rw [← zeros32]
  have Xgx := Aside0.mk (setRow_heap _ w9.heap.size (fillN 0 0) (blkArr seven) 32 (0, 0) B5.out)
  have BS : Aside0 (Below w9.heap.size w9 ((w9.alloc (.cells (fillN 0 0) 32 (0, 0))).setRow w9.heap.size (blkArr seven))) := ⟨below_setRow (below_alloc (Below.refl _ _) (.cells (fillN 0 0) 32 (0, 0))) (Nat.le_refl _) (blkArr seven)⟩
  replace R := Aside0.mk (R.out.below BS.out)
  replace BL := Aside0.mk (below_on HB.out BL.out BS.out)
  clear BS B5
  generalize (w9.alloc (.cells (fillN 0 0) 32 (0, 0))).setRow w9.heap.size (blkArr seven) = w10 at *
  generalize w9.heap.size = gx at *
  go_wp2_with fail
  refine (rd0 R.out).mono ?_
  rintro e w11 ⟨rfl, hb⟩
  have hb11 := hb
  replace R := Aside0.mk (R.out.below hb)
  replace BL : Aside0 (Below base w w11) := ⟨below_on HB.out BL.out hb⟩
  clear hb
  replace Xgx := Aside0.mk (blk_below Xgx.out hb11)
  have B5 := Aside0.mk (blk_new w11 (.cells (fillN 0 0) 32 (0, 0)))
  go_wp2_with (first | (refine wpList_store_row rfl 32 _ _ rfl w11.heap.size (blkArr zero32) rfl rfl 32 _ (zeros32 ▸ B5.out) (by kernel_rfl) (by kernel_rfl) (blkArr_one zero32) (stop ?_)))
  unfold Stop
  rw [← zeros32]
  have Xgy := Aside0.mk (setRow_heap _ w11.heap.size (fillN 0 0) (blkArr zero32) 32 (0, 0) B5.out)
  have BS : Aside0 (Below w11.heap.size w11 ((w11.alloc (.cells (fillN 0 0) 32 (0, 0))).setRow w11.heap.size (blkArr zero32))) := ⟨below_setRow (below_alloc (Below.refl _ _) (.cells (fillN 0 0) 32 (0, 0))) (Nat.le_refl _) (blkArr zero32)⟩
  replace R := Aside0.mk (R.out.below BS.out)
  replace BL := Aside0.mk (below_on HB.out BL.out BS.out)
  replace Xgx := Aside0.mk (blk_below Xgx.out BS.out)
  clear BS B5
  generalize (w11.alloc (.cells (fillN 0 0) 32 (0, 0))).setRow w11.heap.size (blkArr zero32) = w12 at *
  generalize w11.heap.size = gy at *
  clear hb11
  have E7 := eq_seven
  have E0 := eq_zero
  go_wp2_with fail
  refine start_ (n := 43) (S := fun w' => w'.heap[gx]? = some (.cells (blkArr seven) 32 (0, 0)) ∧ w'.heap[gy]? = some (.cells (blkArr zero32) 32 (0, 0))) (ds := [29, 34, 39]) #[false, false, false, false, false, false, false, false, false, false, false, false, false, false, false, false, false, false, false, false, false, false, false, false, false, false, false, false, false, false, false, false, false, false, false, false, false, false, false, false, false, false, false] (by kernel_rfl) rfl rfl ⟨Xgx.out, Xgy.out⟩ (fun hHeld => ?_)
  replace R : Aside0 (Rep base w12.drew base W2 _ _) := ⟨R.out.below (below_drew1 (Below.refl _ _))⟩
  replace BL : Aside0 (Below base w w12.drew) := ⟨below_on HB.out BL.out (below_drew1 (Below.refl _ _))⟩
  clear Xgx Xgy
  generalize w12.drew = w13 at R BL hHeld ⊢
  refine pure_ (i := 0) (N := (some 46)) (v := ?_) (a' := ?_) #[true, false, false, false, false, false, false, false, false, false, false, false, false, false, false, false, false, false, false, false, false, false, false, false, false, false, false, false, false, false, false, false, false, false, false, false, false, false, false, false, false, false, false] rfl rfl (by kernel_rfl) (fun _ _ _ h => h) (Or.inl ⟨by rfl, ?_⟩) ?_ ?_
  rotate_left
  · intro w'
    go_simp
    with_reducible rfl
  rotate_left
  · simp only [Act.put, List.setIfInBounds_toArray, List.set_cons_zero, List.set_cons_succ, i64_w, i32_w]
    rfl
  refine pure_ (i := 1) (N := (some 47)) (v := ?_) (a' := ?_) #[true, true, false, false, false, false, false, false, false, false, false, false, false, false, false, false, false, false, false, false, false, false, false, false, false, false, false, false, false, false, false, false, false, false, false, false, false, false, false, false, false, false, false] rfl rfl (by kernel_rfl) (fun _ _ _ h => h) (Or.inl ⟨by rfl, ?_⟩) ?_ ?_
  rotate_left
  · intro w'
    go_simp
    with_reducible rfl
  rotate_left
  · simp only [Act.put, List.setIfInBounds_toArray, List.set_cons_zero, List.set_cons_succ, i64_w, i32_w]
    rfl
  refine pure_ (i := 2) (N := (some 48)) (v := ?_) (a' := ?_) #[true, true, true, false, false, false, false, false, false, false, false, false, false, false, false, false, false, false, false, false, false, false, false, false, false, false, false, false, false, false, false, false, false, false, false, false, false, false, false, false, false, false, false] rfl rfl (by kernel_rfl) (fun _ _ _ h => h) (Or.inl ⟨by rfl, ?_⟩) ?_ ?_
  rotate_left
  · intro w'
    go_simp
    with_reducible rfl
  rotate_left
  · simp only [Act.put, List.setIfInBounds_toArray, List.set_cons_zero, List.set_cons_succ, i64_w, i32_w]
    rfl
  refine pure_ (i := 3) (N := (some 49)) (v := ?_) (a' := ?_) #[true, true, true, true, false, false, false, false, false, false, false, false, false, false, false, false, false, false, false, false, false, false, false, false, false, false, false, false, false, false, false, false, false, false, false, false, false, false, false, false, false, false, false] rfl rfl (by kernel_rfl) (fun _ _ _ h => h) (Or.inl ⟨by rfl, ?_⟩) ?_ ?_
  rotate_left
  · intro w'
    go_simp
    with_reducible rfl
  rotate_left
  · simp only [Act.put, List.setIfInBounds_toArray, List.set_cons_zero, List.set_cons_succ, i64_w, i32_w]
    rfl
  refine pure_ (i := 4) (N := (some 50)) (v := ?_) (a' := ?_) #[true, true, true, true, true, false, false, false, false, false, false, false, false, false, false, false, false, false, false, false, false, false, false, false, false, false, false, false, false, false, false, false, false, false, false, false, false, false, false, false, false, false, false] rfl rfl (by kernel_rfl) (fun _ _ _ h => h) (Or.inl ⟨by rfl, ?_⟩) ?_ ?_
  rotate_left
  · intro w'
    go_simp
    with_reducible rfl
  rotate_left
  · simp only [Act.put, List.setIfInBounds_toArray, List.set_cons_zero, List.set_cons_succ, i64_w, i32_w]
    rfl
  refine pure_ (i := 5) (N := (some 51)) (v := ?_) (a' := ?_) #[true, true, true, true, true, true, false, false, false, false, false, false, false, false, false, false, false, false, false, false, false, false, false, false, false, false, false, false, false, false, false, false, false, false, false, false, false, false, false, false, false, false, false] rfl rfl (by kernel_rfl) (fun _ _ _ h => h) (Or.inl ⟨by rfl, ?_⟩) ?_ ?_
  rotate_left
  · intro w'
    go_simp
    with_reducible rfl
  rotate_left
  · simp only [Act.put, List.setIfInBounds_toArray, List.set_cons_zero, List.set_cons_succ, i64_w, i32_w]
    rfl
  refine pure_ (i := 6) (N := (some 52)) (v := ?_) (a' := ?_) #[true, true, true, true, true, true, true, false, false, false, false, false, false, false, false, false, false, false, false, false, false, false, false, false, false, false, false, false, false, false, false, false, false, false, false, false, false, false, false, false, false, false, false] rfl rfl (by kernel_rfl) (fun _ _ _ h => h) (Or.inl ⟨by rfl, ?_⟩) ?_ ?_
  rotate_left
  · intro w'
    go_simp
    with_reducible rfl
  rotate_left
  · simp only [Act.put, List.setIfInBounds_toArray, List.set_cons_zero, List.set_cons_succ, i64_w, i32_w]
    rfl
  refine take_ (i := 7) (N := (some 53)) (v := ?_) (a' := ?_) #[true, true, true, true, true, true, true, true, false, false, false, false, false, false, false, false, false, false, false, false, false, false, false, false, false, false, false, false, false, false, false, false, false, false, false, false, false, false, false, false, false, false, false] rfl rfl (by kernel_rfl) (fun _ _ _ h => h) (Or.inl ⟨by rfl, ?_⟩) hHeld ?_ ?_
  rotate_left
  · rintro w' ⟨s0, s1⟩
    refine (run_load_row (by rfl) (by rfl) s0 Tryd.underlying32 rfl (by kernel_rfl)).trans ?_
    with_reducible rfl
  rotate_left
  · simp only [Act.put, List.setIfInBounds_toArray, List.set_cons_zero, List.set_cons_succ, i64_w, i32_w]
    rfl
  refine one_ (i := 8) (N := (some 54)) #[true, true, true, true, true, true, true, true, true, false, false, false, false, false, false, false, false, false, false, false, false, false, false, false, false, false, false, false, false, false, false, false, false, false, false, false, false, false, false, false, false, false, false] rfl rfl (by kernel_rfl) (by decide) (fun K hK => ?_)
  refine goes_ Tryd.func27 (by kernel_rfl) rfl #[.int .u8 7] (by rfl) rfl rfl (by simp only [List.map_toArray, List.map_cons, List.map_nil]; rfl) ?_
  with_reducible refine (fill7 _).mono ?_
  rintro e w21 ⟨rfl, hb⟩
  replace R := Aside0.mk (R.out.below hb)
  replace BL : Aside0 (Below base w w21) := ⟨below_on HB.out BL.out hb⟩
  refine ⟨_, rfl, ?_⟩
  refine hK.out _ _ ⟨blk_below hHeld.1 hb, blk_below hHeld.2 hb⟩ (fun hHeld => ?_)
  clear hK K
  refine norm_ (a' := ?_) ?_ ?_
  rotate_left
  · show Act.put _ (some 54) _ = _
    simp only [Act.put, List.setIfInBounds_toArray, List.set_cons_zero, List.set_cons_succ, i64_w, i32_w]
    rfl
  refine pure_ (i := 9) (N := (some 55)) (v := ?_) (a' := ?_) #[true, true, true, true, true, true, true, true, true, true, false, false, false, false, false, false, false, false, false, false, false, false, false, false, false, false, false, false, false, false, false, false, false, false, false, false, false, false, false, false, false, false, false] rfl rfl (by kernel_rfl) (fun _ _ _ h => h) (Or.inl ⟨by rfl, ?_⟩) ?_ ?_
  rotate_left
  · intro w'
    go_simp
    with_reducible rfl
  rotate_left
  · simp only [Act.put, List.setIfInBounds_toArray, List.set_cons_zero, List.set_cons_succ, i64_w, i32_w]
    rfl
  refine pure_ (i := 10) (N := (some 56)) (v := ?_) (a' := ?_) #[true, true, true, true, true, true, true, true, true, true, true, false, false, false, false, false, false, false, false, false, false, false, false, false, false, false, false, false, false, false, false, false, false, false, false, false, false, false, false, false, false, false, false] rfl rfl (by kernel_rfl) (fun _ _ _ h => h) (Or.inl ⟨by rfl, ?_⟩) ?_ ?_
  rotate_left
  · intro w'
    go_simp
    with_reducible rfl
  rotate_left
  · simp only [Act.put, List.setIfInBounds_toArray, List.set_cons_zero, List.set_cons_succ, i64_w, i32_w]
    rfl
  refine pure_ (i := 11) (N := (some 57)) (v := ?_) (a' := ?_) #[true, true, true, true, true, true, true, true, true, true, true, true, false, false, false, false, false, false, false, false, false, false, false, false, false, false, false, false, false, false, false, false, false, false, false, false, false, false, false, false, false, false, false] rfl rfl (by kernel_rfl) (fun _ _ _ h => h) (Or.inl ⟨by rfl, ?_⟩) ?_ ?_
  rotate_left
  · intro w'
    go_simp
    with_reducible rfl
  rotate_left
  · simp only [Act.put, List.setIfInBounds_toArray, List.set_cons_zero, List.set_cons_succ, i64_w, i32_w]
    rfl
  refine pure_ (i := 13) (N := (some 59)) (v := ?_) (a' := ?_) #[true, true, true, true, true, true, true, true, true, true, true, true, false, true, false, false, false, false, false, false, false, false, false, false, false, false, false, false, false, false, false, false, false, false, false, false, false, false, false, false, false, false, false] rfl rfl (by kernel_rfl) (fun _ _ _ h => h) (Or.inl ⟨by rfl, ?_⟩) ?_ ?_
  rotate_left
  · intro w'
    go_simp
    with_reducible rfl
  rotate_left
  · simp only [Act.put, List.setIfInBounds_toArray, List.set_cons_zero, List.set_cons_succ, i64_w, i32_w]
    rfl
  refine take_ (i := 12) (N := (some 58)) (v := ?_) (a' := ?_) #[true, true, true, true, true, true, true, true, true, true, true, true, true, true, false, false, false, false, false, false, false, false, false, false, false, false, false, false, false, false, false, false, false, false, false, false, false, false, false, false, false, false, false] rfl rfl (by kernel_rfl) (fun _ _ _ h => h) (Or.inl ⟨by rfl, ?_⟩) hHeld ?_ ?_
  rotate_left
  · rintro w' ⟨s0, s1⟩
    refine (run_load_row (by rfl) (by rfl) s1 Tryd.underlying32 rfl (by kernel_rfl)).trans ?_
    with_reducible rfl
  rotate_left
  · simp only [Act.put, List.setIfInBounds_toArray, List.set_cons_zero, List.set_cons_succ, i64_w, i32_w]
    rfl
  refine pure_ (i := 14) (N := (some 60)) (v := ?_) (a' := ?_) #[true, true, true, true, true, true, true, true, true, true, true, true, true, true, true, false, false, false, false, false, false, false, false, false, false, false, false, false, false, false, false, false, false, false, false, false, false, false, false, false, false, false, false] rfl rfl (by kernel_rfl) (fun _ _ _ h => h) (Or.inl ⟨by rfl, ?_⟩) ?_ ?_
  rotate_left
  · intro w'
    go_simp
    with_reducible rfl
  rotate_left
  · simp only [Act.put, List.setIfInBounds_toArray, List.set_cons_zero, List.set_cons_succ, i64_w, i32_w]
    rfl
  refine pure_ (i := 15) (N := (some 61)) (v := ?_) (a' := ?_) #[true, true, true, true, true, true, true, true, true, true, true, true, true, true, true, true, false, false, false, false, false, false, false, false, false, false, false, false, false, false, false, false, false, false, false, false, false, false, false, false, false, false, false] rfl rfl (by kernel_rfl) (fun _ _ _ h => h) (Or.inl ⟨by rfl, ?_⟩) ?_ ?_
  rotate_left
  · intro w'
    go_simp
    with_reducible rfl
  rotate_left
  · simp only [Act.put, List.setIfInBounds_toArray, List.set_cons_zero, List.set_cons_succ, i64_w, i32_w]
    rfl
  refine pure_ (i := 16) (N := (some 62)) (v := ?_) (a' := ?_) #[true, true, true, true, true, true, true, true, true, true, true, true, true, true, true, true, true, false, false, false, false, false, false, false, false, false, false, false, false, false, false, false, false, false, false, false, false, false, false, false, false, false, false] rfl rfl (by kernel_rfl) (fun _ _ _ h => h) (Or.inl ⟨by rfl, ?_⟩) ?_ ?_
  rotate_left
  · intro w'
    go_simp
    with_reducible rfl
  rotate_left
  · simp only [Act.put, List.setIfInBounds_toArray, List.set_cons_zero, List.set_cons_succ, i64_w, i32_w]
    rfl
  refine pure_ (i := 17) (N := (some 63)) (v := ?_) (a' := ?_) #[true, true, true, true, true, true, true, true, true, true, true, true, true, true, true, true, true, true, false, false, false, false, false, false, false, false, false, false, false, false, false, false, false, false, false, false, false, false, false, false, false, false, false] rfl rfl (by kernel_rfl) (fun _ _ _ h => h) (Or.inl ⟨by rfl, ?_⟩) ?_ ?_
  rotate_left
  · intro w'
    go_simp
    with_reducible rfl
  rotate_left
  · simp only [Act.put, List.setIfInBounds_toArray, List.set_cons_zero, List.set_cons_succ, i64_w, i32_w]
    rfl
  refine one_ (i := 18) (N := (some 64)) #[true, true, true, true, true, true, true, true, true, true, true, true, true, true, true, true, true, true, true, false, false, false, false, false, false, false, false, false, false, false, false, false, false, false, false, false, false, false, false, false, false, false, false] rfl rfl (by kernel_rfl) (by decide) (fun K hK => ?_)
  refine goes_ Tryd.func20 (by kernel_rfl) rfl #[.pointer (some ⟨base, 0, none⟩)] (by rfl) rfl rfl (by simp only [List.map_toArray, List.map_cons, List.map_nil]; rfl) ?_
  with_reducible refine (fr9 R.out).mono ?_
  rintro e w22 ⟨rfl, hb⟩
  replace R := Aside0.mk (R.out.below hb)
  replace BL : Aside0 (Below base w w22) := ⟨below_on HB.out BL.out hb⟩
  refine ⟨_, rfl, ?_⟩
  refine hK.out _ _ ⟨blk_below hHeld.1 hb, blk_below hHeld.2 hb⟩ (fun hHeld => ?_)
  clear hK K
  refine norm_ (a' := ?_) ?_ ?_
  rotate_left
  · show Act.put _ (some 64) _ = _
    simp only [Act.put, List.setIfInBounds_toArray, List.set_cons_zero, List.set_cons_succ, i64_w, i32_w]
    rfl
  refine pure_ (i := 19) (N := (some 65)) (v := ?_) (a' := ?_) #[true, true, true, true, true, true, true, true, true, true, true, true, true, true, true, true, true, true, true, true, false, false, false, false, false, false, false, false, false, false, false, false, false, false, false, false, false, false, false, false, false, false, false] rfl rfl (by kernel_rfl) (fun _ _ _ h => h) (Or.inl ⟨by rfl, ?_⟩) ?_ ?_
  rotate_left
  · intro w'
    go_simp
    with_reducible rfl
  rotate_left
  · simp only [Act.put, List.setIfInBounds_toArray, List.set_cons_zero, List.set_cons_succ, i64_w, i32_w]
    rfl
  refine pure_ (i := 20) (N := (some 66)) (v := ?_) (a' := ?_) #[true, true, true, true, true, true, true, true, true, true, true, true, true, true, true, true, true, true, true, true, true, false, false, false, false, false, false, false, false, false, false, false, false, false, false, false, false, false, false, false, false, false, false] rfl rfl (by kernel_rfl) (fun _ _ _ h => h) (Or.inl ⟨by rfl, ?_⟩) ?_ ?_
  rotate_left
  · intro w'
    go_simp
    with_reducible rfl
  rotate_left
  · simp only [Act.put, List.setIfInBounds_toArray, List.set_cons_zero, List.set_cons_succ, i64_w, i32_w]
    rfl
  refine pure_ (i := 21) (N := (some 67)) (v := ?_) (a' := ?_) #[true, true, true, true, true, true, true, true, true, true, true, true, true, true, true, true, true, true, true, true, true, true, false, false, false, false, false, false, false, false, false, false, false, false, false, false, false, false, false, false, false, false, false] rfl rfl (by kernel_rfl) (fun _ _ _ h => h) (Or.inl ⟨by rfl, ?_⟩) ?_ ?_
  rotate_left
  · intro w'
    go_simp
    with_reducible rfl
  rotate_left
  · simp only [Act.put, List.setIfInBounds_toArray, List.set_cons_zero, List.set_cons_succ, i64_w, i32_w]
    rfl
  refine pure_ (i := 22) (N := (some 68)) (v := ?_) (a' := ?_) #[true, true, true, true, true, true, true, true, true, true, true, true, true, true, true, true, true, true, true, true, true, true, true, false, false, false, false, false, false, false, false, false, false, false, false, false, false, false, false, false, false, false, false] rfl rfl (by kernel_rfl) (fun _ _ _ h => h) (Or.inl ⟨by rfl, ?_⟩) ?_ ?_
  rotate_left
  · intro w'
    go_simp
    with_reducible rfl
  rotate_left
  · simp only [Act.put, List.setIfInBounds_toArray, List.set_cons_zero, List.set_cons_succ, i64_w, i32_w]
    rfl
  refine two_ (i := 23) (j := 24) (Ni := (some 69)) (Nj := (some 70)) #[true, true, true, true, true, true, true, true, true, true, true, true, true, true, true, true, true, true, true, true, true, true, true, true, false, false, false, false, false, false, false, false, false, false, false, false, false, false, false, false, false, false, false] #[true, true, true, true, true, true, true, true, true, true, true, true, true, true, true, true, true, true, true, true, true, true, true, false, true, false, false, false, false, false, false, false, false, false, false, false, false, false, false, false, false, false, false] rfl rfl rfl rfl (by kernel_rfl) (by decide) (by decide) (fun K hK => ?_) (fun K hK => ?_)
  · skip
    refine goes_ Tryd.func18 (by kernel_rfl) rfl #[.pointer (some ⟨base, 0, none⟩)] (by rfl) rfl rfl (by simp only [List.map_toArray, List.map_cons, List.map_nil]; rfl) ?_
    with_reducible refine (nm R.out).mono ?_
    rintro e w23 ⟨u, rfl, tr, hb⟩
    replace R := Aside0.mk (R.out.below hb)
    replace BL : Aside0 (Below base w w23) := ⟨below_on HB.out BL.out hb⟩
    have TU := Aside0.mk tr
    clear tr
    refine ⟨_, rfl, ?_⟩
    refine hK.out _ _ ⟨blk_below hHeld.1 hb, blk_below hHeld.2 hb⟩ (fun hHeld => ?_)
    clear hK K
    refine norm_ (a' := ?_) ?_ ?_
    rotate_left
    · show Act.put _ (some 69) _ = _
      simp only [Act.put, List.setIfInBounds_toArray, List.set_cons_zero, List.set_cons_succ, i64_w, i32_w]
      rfl
    refine one_ (i := 24) (N := (some 70)) #[true, true, true, true, true, true, true, true, true, true, true, true, true, true, true, true, true, true, true, true, true, true, true, true, true, false, false, false, false, false, false, false, false, false, false, false, false, false, false, false, false, false, false] rfl rfl (by kernel_rfl) (by decide) (fun K hK => ?_)
    refine value_ (v := .slice (some ⟨w23.heap.size, 0, none⟩) 1 1) (w1 := w23.alloc (.cells #[.string ⟨#[97, 98]⟩] 9 (0, 0))) (by rfl) rfl ?_ ?_
    · go_simp
    have hb : Below w23.heap.size w23 (w23.alloc (.cells #[.string ⟨#[97, 98]⟩] 9 (0, 0))) := below_alloc (Below.refl _ _) _
    have TB := Aside0.mk (trow_one (blk_new w23 (.cells #[.string ⟨#[97, 98]⟩] 9 (0, 0))))
    replace R := Aside0.mk (R.out.below hb)
    replace BL : Aside0 (Below base w (w23.alloc (.cells #[.string ⟨#[97, 98]⟩] 9 (0, 0)))) := ⟨below_on HB.out BL.out hb⟩
    replace TU := Aside0.mk (trow_below TU.out hb)
    have hH2 := blk_below hHeld.1 hb
    have hH3 := blk_below hHeld.2 hb
    clear hb hHeld
    generalize w23.alloc (.cells #[.string ⟨#[97, 98]⟩] 9 (0, 0)) = w24 at *
    generalize w23.heap.size = gt at *
    refine hK.out _ _ ⟨hH2, hH3⟩ (fun hHeld => ?_)
    clear hK K
    refine norm_ (a' := ?_) ?_ ?_
    rotate_left
    · show Act.put _ (some 70) _ = _
      simp only [Act.put, List.setIfInBounds_toArray, List.set_cons_zero, List.set_cons_succ, i64_w, i32_w]
      rfl
    refine one_ (i := 25) (N := (some 71)) #[true, true, true, true, true, true, true, true, true, true, true, true, true, true, true, true, true, true, true, true, true, true, true, true, true, true, false, false, false, false, false, false, false, false, false, false, false, false, false, false, false, false, false] rfl rfl (by kernel_rfl) (by decide) (fun K hK => ?_)
    refine goes_ Tryd.func17 (by kernel_rfl) rfl #[u, .slice (some ⟨gt, 0, none⟩) 1 1] (by rfl) rfl rfl (by simp only [List.map_toArray, List.map_cons, List.map_nil]; rfl) ?_
    with_reducible refine (tx TU.out TB.out).mono ?_
    rintro e w25 ⟨rfl, hb⟩
    replace R := Aside0.mk (R.out.below hb)
    replace BL : Aside0 (Below base w w25) := ⟨below_on HB.out BL.out hb⟩
    refine ⟨_, rfl, ?_⟩
    refine hK.out _ _ ⟨blk_below hHeld.1 hb, blk_below hHeld.2 hb⟩ (fun hHeld => ?_)
    clear hK K
    refine norm_ (a' := ?_) ?_ ?_
    rotate_left
    · show Act.put _ (some 71) _ = _
      simp only [Act.put, List.setIfInBounds_toArray, List.set_cons_zero, List.set_cons_succ, i64_w, i32_w]
      rfl
    refine pure_ (i := 26) (N := (some 72)) (v := ?_) (a' := ?_) #[true, true, true, true, true, true, true, true, true, true, true, true, true, true, true, true, true, true, true, true, true, true, true, true, true, true, true, false, false, false, false, false, false, false, false, false, false, false, false, false, false, false, false] rfl rfl (by kernel_rfl) (fun _ _ _ h => h) (Or.inl ⟨by rfl, ?_⟩) ?_ ?_
    rotate_left
    · intro w'
      go_simp
      with_reducible rfl
    rotate_left
    · simp only [Act.put, List.setIfInBounds_toArray, List.set_cons_zero, List.set_cons_succ, i64_w, i32_w]
      rfl
    refine pure_ (i := 27) (N := (some 73)) (v := ?_) (a' := ?_) #[true, true, true, true, true, true, true, true, true, true, true, true, true, true, true, true, true, true, true, true, true, true, true, true, true, true, true, true, false, false, false, false, false, false, false, false, false, false, false, false, false, false, false] rfl rfl (by kernel_rfl) (fun _ _ _ h => h) (Or.inl ⟨by rfl, ?_⟩) ?_ ?_
    rotate_left
    · intro w'
      go_simp
      with_reducible rfl
    rotate_left
    · simp only [Act.put, List.setIfInBounds_toArray, List.set_cons_zero, List.set_cons_succ, i64_w, i32_w]
      rfl
    refine pure_ (i := 28) (N := (some 74)) (v := ?_) (a' := ?_) #[true, true, true, true, true, true, true, true, true, true, true, true, true, true, true, true, true, true, true, true, true, true, true, true, true, true, true, true, true, false, false, false, false, false, false, false, false, false, false, false, false, false, false] rfl rfl (by kernel_rfl) (fun _ _ _ h => h) (Or.inl ⟨by rfl, ?_⟩) ?_ ?_
    rotate_left
    · intro w'
      go_simp
      with_reducible rfl
    rotate_left
    · simp only [Act.put, List.setIfInBounds_toArray, List.set_cons_zero, List.set_cons_succ, i64_w, i32_w]
      rfl
    refine last_ (i := 29) (N := (some 75)) #[true, true, true, true, true, true, true, true, true, true, true, true, true, true, true, true, true, true, true, true, true, true, true, true, true, true, true, true, true, true, false, false, false, false, false, false, false, false, false, false, false, false, false] rfl rfl (by kernel_rfl) (by decide) (fun K hK => ?_)
    refine goes_ Tryd.func12 (by kernel_rfl) rfl #[.pointer (some ⟨base, 0, none⟩), .string ⟨#[99]⟩] (by rfl) rfl rfl (by simp only [List.map_toArray, List.map_cons, List.map_nil]; rfl) ?_
    with_reducible refine (gn1 R.out).mono ?_
    rintro e w26 ⟨rfl, hb⟩
    replace R := Aside0.mk (R.out.below hb)
    replace BL : Aside0 (Below base w w26) := ⟨below_on HB.out BL.out hb⟩
    refine ⟨_, rfl, ?_⟩
    refine hK.out _ _ ?_
    clear hK K
    refine norm_ (a' := ?_) ?_ ?_
    rotate_left
    · show Act.put _ (some 75) _ = _
      simp only [Act.put, List.setIfInBounds_toArray, List.set_cons_zero, List.set_cons_succ, i64_w, i32_w]
      rfl
    refine pure_ (i := 30) (N := (some 76)) (v := ?_) (a' := ?_) #[true, true, true, true, true, true, true, true, true, true, true, true, true, true, true, true, true, true, true, true, true, true, true, true, true, true, true, true, true, true, true, false, false, false, false, false, false, false, false, false, false, false, false] rfl rfl (by kernel_rfl) (fun _ _ _ h => h) (Or.inl ⟨by rfl, ?_⟩) ?_ ?_
    rotate_left
    · intro w'
      go_simp
      with_reducible rfl
    rotate_left
    · simp only [Act.put, List.setIfInBounds_toArray, List.set_cons_zero, List.set_cons_succ, i64_w, i32_w]
      rfl
    refine pure_ (i := 31) (N := (some 77)) (v := ?_) (a' := ?_) #[true, true, true, true, true, true, true, true, true, true, true, true, true, true, true, true, true, true, true, true, true, true, true, true, true, true, true, true, true, true, true, true, false, false, false, false, false, false, false, false, false, false, false] rfl rfl (by kernel_rfl) (fun _ _ _ h => h) (Or.inl ⟨by rfl, ?_⟩) ?_ ?_
    rotate_left
    · intro w'
      go_simp
      with_reducible rfl
    rotate_left
    · simp only [Act.put, List.setIfInBounds_toArray, List.set_cons_zero, List.set_cons_succ, i64_w, i32_w]
      rfl
    refine pure_ (i := 32) (N := (some 78)) (v := ?_) (a' := ?_) #[true, true, true, true, true, true, true, true, true, true, true, true, true, true, true, true, true, true, true, true, true, true, true, true, true, true, true, true, true, true, true, true, true, false, false, false, false, false, false, false, false, false, false] rfl rfl (by kernel_rfl) (fun _ _ _ h => h) (Or.inl ⟨by rfl, ?_⟩) ?_ ?_
    rotate_left
    · intro w'
      go_simp
      with_reducible rfl
    rotate_left
    · simp only [Act.put, List.setIfInBounds_toArray, List.set_cons_zero, List.set_cons_succ, i64_w, i32_w]
      rfl
    refine pure_ (i := 33) (N := (some 79)) (v := ?_) (a' := ?_) #[true, true, true, true, true, true, true, true, true, true, true, true, true, true, true, true, true, true, true, true, true, true, true, true, true, true, true, true, true, true, true, true, true, true, false, false, false, false, false, false, false, false, false] rfl rfl (by kernel_rfl) (fun _ _ _ h => h) (Or.inl ⟨by rfl, ?_⟩) ?_ ?_
    rotate_left
    · intro w'
      go_simp
      with_reducible rfl
    rotate_left
    · simp only [Act.put, List.setIfInBounds_toArray, List.set_cons_zero, List.set_cons_succ, i64_w, i32_w]
      rfl
    refine last_ (i := 34) (N := (some 80)) #[true, true, true, true, true, true, true, true, true, true, true, true, true, true, true, true, true, true, true, true, true, true, true, true, true, true, true, true, true, true, true, true, true, true, true, false, false, false, false, false, false, false, false] rfl rfl (by kernel_rfl) (by decide) (fun K hK => ?_)
    refine goes_ Tryd.func12 (by kernel_rfl) rfl #[.pointer (some ⟨base, 0, none⟩), .string ⟨#[97, 98]⟩] (by rfl) rfl rfl (by simp only [List.map_toArray, List.map_cons, List.map_nil]; rfl) ?_
    with_reducible refine (gn2 R.out).mono ?_
    rintro e w27 ⟨rfl, gs9, v9, R9, hb⟩
    replace R := Aside0.mk R9
    replace BL := Aside0.mk (BL.out.trans hb)
    clear R9
    refine ⟨_, rfl, ?_⟩
    refine hK.out _ _ ?_
    clear hK K
    refine norm_ (a' := ?_) ?_ ?_
    rotate_left
    · show Act.put _ (some 80) _ = _
      simp only [Act.put, List.setIfInBounds_toArray, List.set_cons_zero, List.set_cons_succ, i64_w, i32_w]
      rfl
    refine pure_ (i := 35) (N := (some 81)) (v := ?_) (a' := ?_) #[true, true, true, true, true, true, true, true, true, true, true, true, true, true, true, true, true, true, true, true, true, true, true, true, true, true, true, true, true, true, true, true, true, true, true, true, false, false, false, false, false, false, false] rfl rfl (by kernel_rfl) (fun _ _ _ h => h) (Or.inl ⟨by rfl, ?_⟩) ?_ ?_
    rotate_left
    · intro w'
      go_simp
      with_reducible rfl
    rotate_left
    · simp only [Act.put, List.setIfInBounds_toArray, List.set_cons_zero, List.set_cons_succ, i64_w, i32_w]
      rfl
    refine pure_ (i := 36) (N := (some 82)) (v := ?_) (a' := ?_) #[true, true, true, true, true, true, true, true, true, true, true, true, true, true, true, true, true, true, true, true, true, true, true, true, true, true, true, true, true, true, true, true, true, true, true, true, true, false, false, false, false, false, false] rfl rfl (by kernel_rfl) (fun _ _ _ h => h) (Or.inl ⟨by rfl, ?_⟩) ?_ ?_
    rotate_left
    · intro w'
      go_simp
      with_reducible rfl
    rotate_left
    · simp only [Act.put, List.setIfInBounds_toArray, List.set_cons_zero, List.set_cons_succ, i64_w, i32_w]
      rfl
    refine pure_ (i := 37) (N := (some 83)) (v := ?_) (a' := ?_) #[true, true, true, true, true, true, true, true, true, true, true, true, true, true, true, true, true, true, true, true, true, true, true, true, true, true, true, true, true, true, true, true, true, true, true, true, true, true, false, false, false, false, false] rfl rfl (by kernel_rfl) (fun _ _ _ h => h) (Or.inl ⟨by rfl, ?_⟩) ?_ ?_
    rotate_left
    · intro w'
      go_simp
      with_reducible rfl
    rotate_left
    · simp only [Act.put, List.setIfInBounds_toArray, List.set_cons_zero, List.set_cons_succ, i64_w, i32_w]
      rfl
    refine pure_ (i := 38) (N := (some 84)) (v := ?_) (a' := ?_) #[true, true, true, true, true, true, true, true, true, true, true, true, true, true, true, true, true, true, true, true, true, true, true, true, true, true, true, true, true, true, true, true, true, true, true, true, true, true, true, false, false, false, false] rfl rfl (by kernel_rfl) (fun _ _ _ h => h) (Or.inl ⟨by rfl, ?_⟩) ?_ ?_
    rotate_left
    · intro w'
      go_simp
      with_reducible rfl
    rotate_left
    · simp only [Act.put, List.setIfInBounds_toArray, List.set_cons_zero, List.set_cons_succ, i64_w, i32_w]
      rfl
    refine last_ (i := 39) (N := (some 85)) #[true, true, true, true, true, true, true, true, true, true, true, true, true, true, true, true, true, true, true, true, true, true, true, true, true, true, true, true, true, true, true, true, true, true, true, true, true, true, true, true, false, false, false] rfl rfl (by kernel_rfl) (by decide) (fun K hK => ?_)
    refine goes_ Tryd.func20 (by kernel_rfl) rfl #[.pointer (some ⟨base, 0, none⟩)] (by rfl) rfl rfl (by simp only [List.map_toArray, List.map_cons, List.map_nil]; rfl) ?_
    with_reducible refine (fr11 R.out).mono ?_
    rintro e w28 ⟨rfl, hb⟩
    replace R := Aside0.mk (R.out.below hb)
    replace BL : Aside0 (Below base w w28) := ⟨below_on HB.out BL.out hb⟩
    refine ⟨_, rfl, ?_⟩
    refine hK.out _ _ ?_
    clear hK K
    refine norm_ (a' := ?_) ?_ ?_
    rotate_left
    · show Act.put _ (some 85) _ = _
      simp only [Act.put, List.setIfInBounds_toArray, List.set_cons_zero, List.set_cons_succ, i64_w, i32_w]
      rfl
    refine pure_ (i := 40) (N := (some 86)) (v := ?_) (a' := ?_) #[true, true, true, true, true, true, true, true, true, true, true, true, true, true, true, true, true, true, true, true, true, true, true, true, true, true, true, true, true, true, true, true, true, true, true, true, true, true, true, true, true, false, false] rfl rfl (by kernel_rfl) (fun _ _ _ h => h) (Or.inl ⟨by rfl, ?_⟩) ?_ ?_
    rotate_left
    · intro w'
      go_simp
      with_reducible rfl
    rotate_left
    · simp only [Act.put, List.setIfInBounds_toArray, List.set_cons_zero, List.set_cons_succ, i64_w, i32_w]
      rfl
    refine pure_ (i := 41) (N := (some 87)) (v := ?_) (a' := ?_) #[true, true, true, true, true, true, true, true, true, true, true, true, true, true, true, true, true, true, true, true, true, true, true, true, true, true, true, true, true, true, true, true, true, true, true, true, true, true, true, true, true, true, false] rfl rfl (by kernel_rfl) (fun _ _ _ h => h) (Or.inl ⟨by rfl, ?_⟩) ?_ ?_
    rotate_left
    · intro w'
      go_simp
      with_reducible rfl
    rotate_left
    · simp only [Act.put, List.setIfInBounds_toArray, List.set_cons_zero, List.set_cons_succ, i64_w, i32_w]
      rfl
    refine pure_ (i := 42) (N := (some 0)) (v := ?_) (a' := ?_) #[true, true, true, true, true, true, true, true, true, true, true, true, true, true, true, true, true, true, true, true, true, true, true, true, true, true, true, true, true, true, true, true, true, true, true, true, true, true, true, true, true, true, true] rfl rfl (by kernel_rfl) (fun _ _ _ h => h) (Or.inl ⟨by rfl, ?_⟩) ?_ ?_
    rotate_left
    · intro w'
      go_simp
      with_reducible rfl
    rotate_left
    · simp only [Act.put, List.setIfInBounds_toArray, List.set_cons_zero, List.set_cons_succ, i64_w, i32_w]
      rfl
    refine done_ (by kernel_rfl) ?_
    go_wp2_with fail
    go_ret
    exact ⟨rfl, BL.out⟩
  · skip
    refine value_ (v := .slice (some ⟨w22.heap.size, 0, none⟩) 1 1) (w1 := w22.alloc (.cells #[.string ⟨#[97, 98]⟩] 9 (0, 0))) (by rfl) rfl ?_ ?_
    · go_simp
    have hb : Below w22.heap.size w22 (w22.alloc (.cells #[.string ⟨#[97, 98]⟩] 9 (0, 0))) := below_alloc (Below.refl _ _) _
    have TB := Aside0.mk (trow_one (blk_new w22 (.cells #[.string ⟨#[97, 98]⟩] 9 (0, 0))))
    replace R := Aside0.mk (R.out.below hb)
    replace BL : Aside0 (Below base w (w22.alloc (.cells #[.string ⟨#[97, 98]⟩] 9 (0, 0)))) := ⟨below_on HB.out BL.out hb⟩
    have hH2 := blk_below hHeld.1 hb
    have hH3 := blk_below hHeld.2 hb
    clear hb hHeld
    generalize w22.alloc (.cells #[.string ⟨#[97, 98]⟩] 9 (0, 0)) = w29 at *
    generalize w22.heap.size = gt at *
    refine hK.out _ _ ⟨hH2, hH3⟩ (fun hHeld => ?_)
    clear hK K
    refine norm_ (a' := ?_) ?_ ?_
    rotate_left
    · show Act.put _ (some 70) _ = _
      simp only [Act.put, List.setIfInBounds_toArray, List.set_cons_zero, List.set_cons_succ, i64_w, i32_w]
      rfl
    refine one_ (i := 23) (N := (some 69)) #[true, true, true, true, true, true, true, true, true, true, true, true, true, true, true, true, true, true, true, true, true, true, true, true, true, false, false, false, false, false, false, false, false, false, false, false, false, false, false, false, false, false, false] rfl rfl (by kernel_rfl) (by decide) (fun K hK => ?_)
    refine goes_ Tryd.func18 (by kernel_rfl) rfl #[.pointer (some ⟨base, 0, none⟩)] (by rfl) rfl rfl (by simp only [List.map_toArray, List.map_cons, List.map_nil]; rfl) ?_
    with_reducible refine (nm R.out).mono ?_
    rintro e w30 ⟨u, rfl, tr, hb⟩
    replace R := Aside0.mk (R.out.below hb)
    replace BL : Aside0 (Below base w w30) := ⟨below_on HB.out BL.out hb⟩
    have TU := Aside0.mk tr
    clear tr
    replace TB := Aside0.mk (trow_below TB.out hb)
    refine ⟨_, rfl, ?_⟩
    refine hK.out _ _ ⟨blk_below hHeld.1 hb, blk_below hHeld.2 hb⟩ (fun hHeld => ?_)
    clear hK K
    refine norm_ (a' := ?_) ?_ ?_
    rotate_left
    · show Act.put _ (some 69) _ = _
      simp only [Act.put, List.setIfInBounds_toArray, List.set_cons_zero, List.set_cons_succ, i64_w, i32_w]
      rfl
    refine one_ (i := 25) (N := (some 71)) #[true, true, true, true, true, true, true, true, true, true, true, true, true, true, true, true, true, true, true, true, true, true, true, true, true, true, false, false, false, false, false, false, false, false, false, false, false, false, false, false, false, false, false] rfl rfl (by kernel_rfl) (by decide) (fun K hK => ?_)
    refine goes_ Tryd.func17 (by kernel_rfl) rfl #[u, .slice (some ⟨gt, 0, none⟩) 1 1] (by rfl) rfl rfl (by simp only [List.map_toArray, List.map_cons, List.map_nil]; rfl) ?_
    with_reducible refine (tx TU.out TB.out).mono ?_
    rintro e w31 ⟨rfl, hb⟩
    replace R := Aside0.mk (R.out.below hb)
    replace BL : Aside0 (Below base w w31) := ⟨below_on HB.out BL.out hb⟩
    refine ⟨_, rfl, ?_⟩
    refine hK.out _ _ ⟨blk_below hHeld.1 hb, blk_below hHeld.2 hb⟩ (fun hHeld => ?_)
    clear hK K
    refine norm_ (a' := ?_) ?_ ?_
    rotate_left
    · show Act.put _ (some 71) _ = _
      simp only [Act.put, List.setIfInBounds_toArray, List.set_cons_zero, List.set_cons_succ, i64_w, i32_w]
      rfl
    refine pure_ (i := 26) (N := (some 72)) (v := ?_) (a' := ?_) #[true, true, true, true, true, true, true, true, true, true, true, true, true, true, true, true, true, true, true, true, true, true, true, true, true, true, true, false, false, false, false, false, false, false, false, false, false, false, false, false, false, false, false] rfl rfl (by kernel_rfl) (fun _ _ _ h => h) (Or.inl ⟨by rfl, ?_⟩) ?_ ?_
    rotate_left
    · intro w'
      go_simp
      with_reducible rfl
    rotate_left
    · simp only [Act.put, List.setIfInBounds_toArray, List.set_cons_zero, List.set_cons_succ, i64_w, i32_w]
      rfl
    refine pure_ (i := 27) (N := (some 73)) (v := ?_) (a' := ?_) #[true, true, true, true, true, true, true, true, true, true, true, true, true, true, true, true, true, true, true, true, true, true, true, true, true, true, true, true, false, false, false, false, false, false, false, false, false, false, false, false, false, false, false] rfl rfl (by kernel_rfl) (fun _ _ _ h => h) (Or.inl ⟨by rfl, ?_⟩) ?_ ?_
    rotate_left
    · intro w'
      go_simp
      with_reducible rfl
    rotate_left
    · simp only [Act.put, List.setIfInBounds_toArray, List.set_cons_zero, List.set_cons_succ, i64_w, i32_w]
      rfl
    refine pure_ (i := 28) (N := (some 74)) (v := ?_) (a' := ?_) #[true, true, true, true, true, true, true, true, true, true, true, true, true, true, true, true, true, true, true, true, true, true, true, true, true, true, true, true, true, false, false, false, false, false, false, false, false, false, false, false, false, false, false] rfl rfl (by kernel_rfl) (fun _ _ _ h => h) (Or.inl ⟨by rfl, ?_⟩) ?_ ?_
    rotate_left
    · intro w'
      go_simp
      with_reducible rfl
    rotate_left
    · simp only [Act.put, List.setIfInBounds_toArray, List.set_cons_zero, List.set_cons_succ, i64_w, i32_w]
      rfl
    refine last_ (i := 29) (N := (some 75)) #[true, true, true, true, true, true, true, true, true, true, true, true, true, true, true, true, true, true, true, true, true, true, true, true, true, true, true, true, true, true, false, false, false, false, false, false, false, false, false, false, false, false, false] rfl rfl (by kernel_rfl) (by decide) (fun K hK => ?_)
    refine goes_ Tryd.func12 (by kernel_rfl) rfl #[.pointer (some ⟨base, 0, none⟩), .string ⟨#[99]⟩] (by rfl) rfl rfl (by simp only [List.map_toArray, List.map_cons, List.map_nil]; rfl) ?_
    with_reducible refine (gn1 R.out).mono ?_
    rintro e w32 ⟨rfl, hb⟩
    replace R := Aside0.mk (R.out.below hb)
    replace BL : Aside0 (Below base w w32) := ⟨below_on HB.out BL.out hb⟩
    refine ⟨_, rfl, ?_⟩
    refine hK.out _ _ ?_
    clear hK K
    refine norm_ (a' := ?_) ?_ ?_
    rotate_left
    · show Act.put _ (some 75) _ = _
      simp only [Act.put, List.setIfInBounds_toArray, List.set_cons_zero, List.set_cons_succ, i64_w, i32_w]
      rfl
    refine pure_ (i := 30) (N := (some 76)) (v := ?_) (a' := ?_) #[true, true, true, true, true, true, true, true, true, true, true, true, true, true, true, true, true, true, true, true, true, true, true, true, true, true, true, true, true, true, true, false, false, false, false, false, false, false, false, false, false, false, false] rfl rfl (by kernel_rfl) (fun _ _ _ h => h) (Or.inl ⟨by rfl, ?_⟩) ?_ ?_
    rotate_left
    · intro w'
      go_simp
      with_reducible rfl
    rotate_left
    · simp only [Act.put, List.setIfInBounds_toArray, List.set_cons_zero, List.set_cons_succ, i64_w, i32_w]
      rfl
    refine pure_ (i := 31) (N := (some 77)) (v := ?_) (a' := ?_) #[true, true, true, true, true, true, true, true, true, true, true, true, true, true, true, true, true, true, true, true, true, true, true, true, true, true, true, true, true, true, true, true, false, false, false, false, false, false, false, false, false, false, false] rfl rfl (by kernel_rfl) (fun _ _ _ h => h) (Or.inl ⟨by rfl, ?_⟩) ?_ ?_
    rotate_left
    · intro w'
      go_simp
      with_reducible rfl
    rotate_left
    · simp only [Act.put, List.setIfInBounds_toArray, List.set_cons_zero, List.set_cons_succ, i64_w, i32_w]
      rfl
    refine pure_ (i := 32) (N := (some 78)) (v := ?_) (a' := ?_) #[true, true, true, true, true, true, true, true, true, true, true, true, true, true, true, true, true, true, true, true, true, true, true, true, true, true, true, true, true, true, true, true, true, false, false, false, false, false, false, false, false, false, false] rfl rfl (by kernel_rfl) (fun _ _ _ h => h) (Or.inl ⟨by rfl, ?_⟩) ?_ ?_
    rotate_left
    · intro w'
      go_simp
      with_reducible rfl
    rotate_left
    · simp only [Act.put, List.setIfInBounds_toArray, List.set_cons_zero, List.set_cons_succ, i64_w, i32_w]
      rfl
    refine pure_ (i := 33) (N := (some 79)) (v := ?_) (a' := ?_) #[true, true, true, true, true, true, true, true, true, true, true, true, true, true, true, true, true, true, true, true, true, true, true, true, true, true, true, true, true, true, true, true, true, true, false, false, false, false, false, false, false, false, false] rfl rfl (by kernel_rfl) (fun _ _ _ h => h) (Or.inl ⟨by rfl, ?_⟩) ?_ ?_
    rotate_left
    · intro w'
      go_simp
      with_reducible rfl
    rotate_left
    · simp only [Act.put, List.setIfInBounds_toArray, List.set_cons_zero, List.set_cons_succ, i64_w, i32_w]
      rfl
    refine last_ (i := 34) (N := (some 80)) #[true, true, true, true, true, true, true, true, true, true, true, true, true, true, true, true, true, true, true, true, true, true, true, true, true, true, true, true, true, true, true, true, true, true, true, false, false, false, false, false, false, false, false] rfl rfl (by kernel_rfl) (by decide) (fun K hK => ?_)
    refine goes_ Tryd.func12 (by kernel_rfl) rfl #[.pointer (some ⟨base, 0, none⟩), .string ⟨#[97, 98]⟩] (by rfl) rfl rfl (by simp only [List.map_toArray, List.map_cons, List.map_nil]; rfl) ?_
    with_reducible refine (gn2 R.out).mono ?_
    rintro e w33 ⟨rfl, gs9, v9, R9, hb⟩
    replace R := Aside0.mk R9
    replace BL := Aside0.mk (BL.out.trans hb)
    clear R9
    refine ⟨_, rfl, ?_⟩
    refine hK.out _ _ ?_
    clear hK K
    refine norm_ (a' := ?_) ?_ ?_
    rotate_left
    · show Act.put _ (some 80) _ = _
      simp only [Act.put, List.setIfInBounds_toArray, List.set_cons_zero, List.set_cons_succ, i64_w, i32_w]
      rfl
    refine pure_ (i := 35) (N := (some 81)) (v := ?_) (a' := ?_) #[true, true, true, true, true, true, true, true, true, true, true, true, true, true, true, true, true, true, true, true, true, true, true, true, true, true, true, true, true, true, true, true, true, true, true, true, false, false, false, false, false, false, false] rfl rfl (by kernel_rfl) (fun _ _ _ h => h) (Or.inl ⟨by rfl, ?_⟩) ?_ ?_
    rotate_left
    · intro w'
      go_simp
      with_reducible rfl
    rotate_left
    · simp only [Act.put, List.setIfInBounds_toArray, List.set_cons_zero, List.set_cons_succ, i64_w, i32_w]
      rfl
    refine pure_ (i := 36) (N := (some 82)) (v := ?_) (a' := ?_) #[true, true, true, true, true, true, true, true, true, true, true, true, true, true, true, true, true, true, true, true, true, true, true, true, true, true, true, true, true, true, true, true, true, true, true, true, true, false, false, false, false, false, false] rfl rfl (by kernel_rfl) (fun _ _ _ h => h) (Or.inl ⟨by rfl, ?_⟩) ?_ ?_
    rotate_left
    · intro w'
      go_simp
      with_reducible rfl
    rotate_left
    · simp only [Act.put, List.setIfInBounds_toArray, List.set_cons_zero, List.set_cons_succ, i64_w, i32_w]
      rfl
    refine pure_ (i := 37) (N := (some 83)) (v := ?_) (a' := ?_) #[true, true, true, true, true, true, true, true, true, true, true, true, true, true, true, true, true, true, true, true, true, true, true, true, true, true, true, true, true, true, true, true, true, true, true, true, true, true, false, false, false, false, false] rfl rfl (by kernel_rfl) (fun _ _ _ h => h) (Or.inl ⟨by rfl, ?_⟩) ?_ ?_
    rotate_left
    · intro w'
      go_simp
      with_reducible rfl
    rotate_left
    · simp only [Act.put, List.setIfInBounds_toArray, List.set_cons_zero, List.set_cons_succ, i64_w, i32_w]
      rfl
    refine pure_ (i := 38) (N := (some 84)) (v := ?_) (a' := ?_) #[true, true, true, true, true, true, true, true, true, true, true, true, true, true, true, true, true, true, true, true, true, true, true, true, true, true, true, true, true, true, true, true, true, true, true, true, true, true, true, false, false, false, false] rfl rfl (by kernel_rfl) (fun _ _ _ h => h) (Or.inl ⟨by rfl, ?_⟩) ?_ ?_
    rotate_left
    · intro w'
      go_simp
      with_reducible rfl
    rotate_left
    · simp only [Act.put, List.setIfInBounds_toArray, List.set_cons_zero, List.set_cons_succ, i64_w, i32_w]
      rfl
    refine last_ (i := 39) (N := (some 85)) #[true, true, true, true, true, true, true, true, true, true, true, true, true, true, true, true, true, true, true, true, true, true, true, true, true, true, true, true, true, true, true, true, true, true, true, true, true, true, true, true, false, false, false] rfl rfl (by kernel_rfl) (by decide) (fun K hK => ?_)
    refine goes_ Tryd.func20 (by kernel_rfl) rfl #[.pointer (some ⟨base, 0, none⟩)] (by rfl) rfl rfl (by simp only [List.map_toArray, List.map_cons, List.map_nil]; rfl) ?_
    with_reducible refine (fr11 R.out).mono ?_
    rintro e w34 ⟨rfl, hb⟩
    replace R := Aside0.mk (R.out.below hb)
    replace BL : Aside0 (Below base w w34) := ⟨below_on HB.out BL.out hb⟩
    refine ⟨_, rfl, ?_⟩
    refine hK.out _ _ ?_
    clear hK K
    refine norm_ (a' := ?_) ?_ ?_
    rotate_left
    · show Act.put _ (some 85) _ = _
      simp only [Act.put, List.setIfInBounds_toArray, List.set_cons_zero, List.set_cons_succ, i64_w, i32_w]
      rfl
    refine pure_ (i := 40) (N := (some 86)) (v := ?_) (a' := ?_) #[true, true, true, true, true, true, true, true, true, true, true, true, true, true, true, true, true, true, true, true, true, true, true, true, true, true, true, true, true, true, true, true, true, true, true, true, true, true, true, true, true, false, false] rfl rfl (by kernel_rfl) (fun _ _ _ h => h) (Or.inl ⟨by rfl, ?_⟩) ?_ ?_
    rotate_left
    · intro w'
      go_simp
      with_reducible rfl
    rotate_left
    · simp only [Act.put, List.setIfInBounds_toArray, List.set_cons_zero, List.set_cons_succ, i64_w, i32_w]
      rfl
    refine pure_ (i := 41) (N := (some 87)) (v := ?_) (a' := ?_) #[true, true, true, true, true, true, true, true, true, true, true, true, true, true, true, true, true, true, true, true, true, true, true, true, true, true, true, true, true, true, true, true, true, true, true, true, true, true, true, true, true, true, false] rfl rfl (by kernel_rfl) (fun _ _ _ h => h) (Or.inl ⟨by rfl, ?_⟩) ?_ ?_
    rotate_left
    · intro w'
      go_simp
      with_reducible rfl
    rotate_left
    · simp only [Act.put, List.setIfInBounds_toArray, List.set_cons_zero, List.set_cons_succ, i64_w, i32_w]
      rfl
    refine pure_ (i := 42) (N := (some 0)) (v := ?_) (a' := ?_) #[true, true, true, true, true, true, true, true, true, true, true, true, true, true, true, true, true, true, true, true, true, true, true, true, true, true, true, true, true, true, true, true, true, true, true, true, true, true, true, true, true, true, true] rfl rfl (by kernel_rfl) (fun _ _ _ h => h) (Or.inl ⟨by rfl, ?_⟩) ?_ ?_
    rotate_left
    · intro w'
      go_simp
      with_reducible rfl
    rotate_left
    · simp only [Act.put, List.setIfInBounds_toArray, List.set_cons_zero, List.set_cons_succ, i64_w, i32_w]
      rfl
    refine done_ (by kernel_rfl) ?_
    go_wp2_with fail
    go_ret
    exact ⟨rfl, BL.out⟩

end Go.Proofs.YtkppnamblmaokaaDoor.ModT

/- ModelPlays' own walk. -/
import Derived.Test.YtkppnamblmaokaaDoorRefM
import Derived.Test.YtkppnamblmaokaaDoorModW
namespace Go.Proofs.YtkppnamblmaokaaDoor.RefG
open Go.RowKit Go.Proofs.YtkppnamblmaokaaDoorW.PrintWords Go.Proofs.YtkppnamblmaokaaDoorW.PrintLast Go.Proofs.YtkppnamblmaokaaDoorW.PrintMore Go.Proofs.YtkppnamblmaokaaDoor.ModA Go.Proofs.YtkppnamblmaokaaDoor.ModB Go.Proofs.YtkppnamblmaokaaDoor.ModC Go.Proofs.YtkppnamblmaokaaDoor.ModD Go.Proofs.YtkppnamblmaokaaDoor.ModE Go.Proofs.YtkppnamblmaokaaDoor.ModF Go.Proofs.YtkppnamblmaokaaDoor.ModG Go.Proofs.YtkppnamblmaokaaDoor.ModH Go.Proofs.YtkppnamblmaokaaDoor.ModI Go.Proofs.YtkppnamblmaokaaDoor.ModJ Go.Proofs.YtkppnamblmaokaaDoor.ModK Go.Proofs.YtkppnamblmaokaaDoor.ModL Go.Proofs.YtkppnamblmaokaaDoor.ModN Go.Proofs.YtkppnamblmaokaaDoor.ModO Go.Proofs.YtkppnamblmaokaaDoor.ModP Go.Proofs.YtkppnamblmaokaaDoor.ModQ Go.Proofs.YtkppnamblmaokaaDoor.ModR Go.Proofs.YtkppnamblmaokaaDoor.ModS Go.Proofs.YtkppnamblmaokaaDoor.ModT Go.Proofs.YtkppnamblmaokaaDoor.ModV Go.Proofs.YtkppnamblmaokaaDoor.ModW Go.Proofs.YtkppnamblmaokaaDoor.RefA Go.Proofs.YtkppnamblmaokaaDoor.RefB Go.Proofs.YtkppnamblmaokaaDoor.RefC Go.Proofs.YtkppnamblmaokaaDoor.RefD Go.Proofs.YtkppnamblmaokaaDoor.RefE Go.Proofs.YtkppnamblmaokaaDoor.RefF
set_option linter.unusedVariables false
set_option linter.unusedSimpArgs false

theorem info34c : (Tryd.prog.info? 34).map (·.size) = some 35 := by kernel_rfl
def Apart (F G : List Nat) : Prop := ∀ k ∈ F, k ∉ G
theorem Apart.left {F F' G : List Nat} {w w' : World} (D : Apart F G) (M : Moves F F' w w') (hG : ∀ k ∈ G, k < w.heap.size) : Apart F' G := fun k hk hg => by
  rcases M.new k hk with h | h
  · exact D k h hg
  · have := hG k hg; omega
theorem Apart.right {F G G' : List Nat} {w w' : World} (D : Apart F G) (M : Moves G G' w w') (hF : ∀ k ∈ F, k < w.heap.size) : Apart F G' := fun k hk hg => by
  rcases M.new k hg with h | h
  · exact D k hk h
  · have := hF k hk; omega
theorem run_store_mid {P : Program} {o : Oper} {a : Act} {w : World} {ty : TypeId} {x y : Operand} (ho : o.op = .store ty x y) {b k : Nat} {cells : Array Value} (hx : a.eval x = .pointer (some ⟨b, k, none⟩)) (hy : a.eval y = .agg cells)
    (ht : w.there b k cells.size) (hi : (P.info? ty).map (·.size) = some cells.size) (h1 : cells.all (·.oneCell') = true) :
    (execOp a.eval o).run P w = .ok .skip (w.setCells b k cells.toList) := by
  unfold execOp
  simp only [ho, hx, hy, Instr.storeAt, Instr.sureAddr, Sem.run_bind, Sem.run_pure, Result.andThen_ok, run_storeVar_mid w b k ty cells ht hi h1]
theorem names_trow {w : World} {base : Nat} {u : Value} {L : List Vol} (h : w.ownsRow base 9 1 u L.length (names L)) : TRow w u (L.map (·.name)) :=
  trow_own (xs := L.map (·.name)) (by simpa [names, List.map_map, Function.comp_def] using h) (by simp)
/-- The boxed step. -/
theorem box_cells {w : World} {g : Nat} {x : Stp} (h : w.heap[g]? = some (.cells x.cells.toArray 34 (0, 0))) :
    w.cell? ⟨g, 0, none⟩ = some (.int .i64 x.k) ∧ w.cell? ⟨g, 1, none⟩ = some (.string x.name) ∧ w.cell? ⟨g, 2, none⟩ = some (.int .i64 x.n) ∧ w.rangeAt g 3 (x.d.map (Value.int .u8)) := by
  refine ⟨(blk_cell h 0).trans rfl, (blk_cell h 1).trans rfl, (blk_cell h 2).trans rfl, fun j v hv => ?_⟩
  rw [blk_cell h (3 + j)]
  simp only [List.getElem?_toArray]
  unfold Stp.cells
  rw [List.getElem?_append_right (by simp)]
  simpa using hv
theorem stp_len {x : Stp} (h : x.d.length = 32) : x.cells.length = 35 := by simp [Stp.cells, h]
theorem stp_one (x : Stp) : x.cells.toArray.all (·.oneCell') = true := by
  rw [Array.all_eq_true_iff_forall_mem]
  intro u hu
  simp only [Stp.cells, List.mem_toArray, List.mem_append, List.mem_cons, List.not_mem_nil, or_false, List.mem_map] at hu
  rcases hu with (rfl | rfl | rfl) | ⟨j, _, rfl⟩ <;> rfl
theorem stp_range {w : World} {ga off : Nat} {S : List Stp} (h : SRow w ga off S) {i : Nat} {x : Stp} (hx : S[i]? = some x) : w.rangeAt ga (off + i * 35) x.cells := (h i x hx).1
theorem quiet_q {base : Nat} {w w' : World} {qb : Nat} {L : List Vol} {gs : List Nat} {v : Value} {F F' : List Nat} (q : RepQ base w qb L gs v) (M : Moves F F' w w') (D : Apart F (foot qb gs v)) : RepQ base w' qb L gs v :=
  repq_touch q M.touch (fun k hk hf => D k hf hk)
theorem quiet_m {base : Nat} {w w' : World} {mb : Nat} {L : List Vol} {gs : List Nat} {v : Value} {G G' : List Nat} (r : Rep base w mb L gs v) (M : Moves G G' w w') (D : Apart (foot mb gs v) G) : Rep base w' mb L gs v :=
  rep_touch r M.touch (fun k hk hf => D k hk hf)
theorem below_of_movesq {base : Nat} {w w' : World} {mb : Nat} {L : List Vol} {gs gs' : List Nat} {v v' : Value} (r : RepQ base w mb L gs v) (h : Moves (foot mb gs v) (foot mb gs' v') w w') : Below base w w' :=
  h.below (repq_foot_ge r) (Nat.le_of_lt (Nat.lt_of_le_of_lt r.ge (blk_lt r.m)))
/-- Where a block of the document's model lies. -/
theorem q_block {base : Nat} {w : World} {qb : Nat} {L : List Vol} {gs : List Nat} {v : Value} (q : RepQ base w qb L gs v) {name : ByteArray} {at_ : Int} (h : atRes L name at_ = 0) :
    ∃ (i k ga cap g : Nat), ix L name = i ∧ at_ = k ∧ i < L.length ∧ L.length ≤ cap ∧ k < (volOf L name).blocks.length ∧ (volOf L name).blocks.length ≤ 4 ∧ L[i]? = some (volOf L name) ∧ gs[i]? = some g ∧ v = .slice (some ⟨ga, 0, none⟩) L.length cap ∧
      w.cell? ⟨qb, 0, none⟩ = some (.slice (some ⟨ga, 0, none⟩) L.length cap) ∧ w.cell? ⟨ga, i * 2 + 1, none⟩ = some (.slice (some ⟨g, 0, none⟩) (volOf L name).blocks.length (volOf L name).blocks.length) ∧
      (∀ b ∈ (volOf L name).blocks, b.length = 32) ∧ w.heap[g]? = some (.cells (blkCells (volOf L name).blocks).toArray 32 (0, 0)) := by
  obtain ⟨i, k, hi, rfl, hx, hk⟩ := at_ok h
  have hil : i < L.length := (List.getElem?_eq_some_iff.1 hx).1
  obtain ⟨g, hg⟩ : ∃ g, gs[i]? = some g := ⟨gs[i]'(by rw [q.len]; exact hil), by simp⟩
  have hs := q.size i _ hx
  rcases q.slice with ⟨A, cap, _, h0⟩ | ⟨ga, cap, hv, h1, h2, h3⟩
  · subst h0; simp at hil
  · have hc := (blk_cell q.m 0).trans rfl
    rw [hv] at hc
    exact ⟨i, k, ga, cap, g, hi, rfl, hil, h1, hk, hs.1, hx, hg, hv, hc, (h3 i _ g hx hg).2, hs.2, (q.blk i _ g hx hg).2⟩

set_option maxHeartbeats 16000000 in
set_option maxRecDepth 100000 in
theorem plays_walk (A : Option Addr) (ga off cap : Nat) (S : List Stp) (w : World) (hA : 0 < S.length → A = some ⟨ga, off, none⟩) (h1 : S.length ≤ cap) (h2 : cap ≤ maxLen) (hS : SRow w ga off S) (hSN : ∀ x ∈ S, x.name.size ≤ maxLen) :
    Calls Tryd.prog 3 #[.slice A S.length cap] w fun e w' => e = .returned (.bool true) ∧ Below w.heap.size w w' := by
  have FC := Aside0.mk (fair_any A ga off cap S w hA h1 h2 hS)
  have SR := Aside0.mk hS
  have HA := Aside0.mk hA
  have SN := Aside0.mk hSN
  have GX : Aside0 (∀ i, i < S.length → ∃ x, S[i]? = some x) := ⟨fun i hi => ⟨S[i], by simp⟩⟩
  clear hS hA hSN
  have hlen9 : S.length ≤ 9223372036854775807 := by unfold maxLen at h2; omega
  generalize hbase : w.heap.size = base at *
  have HB := Aside0.mk hbase
  clear hbase
  generalize fairB (S.map (·.name)) = fb at *
  generalize hlen : S.length = len at *
  have HL := Aside0.mk hlen
  clear hlen
  go_enter Tryd.func3, Tryd.ntmps3
  go_wp2_with fail
  refine FC.out.mono ?_
  rintro e w1 ⟨rfl, hb⟩
  have BL := Aside0.mk hb
  clear hb FC
  cases fb
  · go_wp2_with fail
    refine (wakes_any _).mono ?_
    rintro e w2 ⟨rfl, hb⟩
    go_wp2
    go_ret
    exact ⟨rfl, below_on HB.out BL.out hb⟩
  go_wp2_with fail
  refine (new_any base w1 (by have := BL.out.size; rw [HB.out] at this; exact this)).mono ?_
  rintro e w2 ⟨rfl, R0, hb⟩
  have R := Aside0.mk R0
  replace BL := Aside0.mk (below_on HB.out BL.out hb)
  clear R0 hb
  generalize w1.heap.size = mb at *
  clear w1
  go_wp2_with fail
  have Q := Aside0.mk (repq_new (base := base) (w := w2) (by have := BL.out.size; rw [HB.out] at this; exact this))
  have D : Aside0 (Apart (foot mb [] (.slice none 0 0)) (foot w2.heap.size [] (.slice none 0 0))) := ⟨fun k hk hq => by
    have := rep_foot_lt R.out k hk
    simp [foot, Value.ownBlock] at hq
    omega⟩
  replace R := Aside0.mk (rep_alloc R.out (.cells #[.slice none 0 0] 30 (0, 0)))
  replace BL := Aside0.mk (below_on HB.out BL.out (below_alloc (Below.refl w2.heap.size w2) (.cells #[.slice none 0 0] 30 (0, 0))))
  generalize w2.alloc (.cells #[.slice none 0 0] 30 (0, 0)) = w3 at *
  generalize w2.heap.size = qb at *
  clear w2
  go_loopw [5] (fun iv wr => ∃ (i : Nat) (L : List Vol) (gs : List Nat) (v : Value) (gq : List Nat) (vq : Value), i ≤ len ∧ iv = .int .i64 i ∧ Aside0 (Rep base wr mb L gs v) ∧ Aside0 (RepQ base wr qb L gq vq) ∧ Aside0 (Apart (foot mb gs v) (foot qb gq vq)) ∧ Aside0 (Below base w wr)) (fun iv _ => len - (intOf iv).toNat)
  case atStart => exact ⟨0, [], [], _, [], _, by omega, rfl, R, Q, D, BL⟩
  case round =>
    clear R Q D BL w3
    obtain ⟨i, L, gs, v, gq, vq, hi, rfl, R, Q, D, BL⟩ := hrel
    by_cases hlt : i < len
    · obtain ⟨x, hx⟩ := GX.out i hlt
      have HX := Aside0.mk hx
      have NS : Aside0 (x.name.size ≤ 9223372036854775807) := ⟨by have := SN.out x (List.mem_of_getElem? hx); unfold maxLen at this; omega⟩
      clear hx
      obtain rfl := HA.out (by omega)
      have RX := Aside0.mk (stp_range (srow_below_base HB.out SR.out BL.out) HX.out)
      have HD := Aside0.mk (SR.out i x HX.out).2
      have CL : Aside0 (x.cells.length = 35) := ⟨stp_len HD.out⟩
      have DL : Aside0 ((List.map (Value.int .u8) x.d).length = 32) := ⟨by rw [List.length_map]; exact HD.out⟩
      go_wp2_with (first | (refine wpList_load_mid rfl 34 _ rfl ga (off + i * 35) rfl x.cells _ RX.out Tryd.underlying34 rfl (by rw [CL.out]; exact info34c) ?_) | (refine wpList_store_row rfl 34 _ _ rfl wr.heap.size x.cells.toArray rfl rfl 34 #[.int .i64 0, .string ⟨#[]⟩, .int .i64 0, .int .u8 0, .int .u8 0, .int .u8 0, .int .u8 0, .int .u8 0, .int .u8 0, .int .u8 0, .int .u8 0, .int .u8 0, .int .u8 0, .int .u8 0, .int .u8 0, .int .u8 0, .int .u8 0, .int .u8 0, .int .u8 0, .int .u8 0, .int .u8 0, .int .u8 0, .int .u8 0, .int .u8 0, .int .u8 0, .int .u8 0, .int .u8 0, .int .u8 0, .int .u8 0, .int .u8 0, .int .u8 0, .int .u8 0, .int .u8 0, .int .u8 0, .int .u8 0] (blk_new wr (.cells #[.int .i64 0, .string ⟨#[]⟩, .int .i64 0, .int .u8 0, .int .u8 0, .int .u8 0, .int .u8 0, .int .u8 0, .int .u8 0, .int .u8 0, .int .u8 0, .int .u8 0, .int .u8 0, .int .u8 0, .int .u8 0, .int .u8 0, .int .u8 0, .int .u8 0, .int .u8 0, .int .u8 0, .int .u8 0, .int .u8 0, .int .u8 0, .int .u8 0, .int .u8 0, .int .u8 0, .int .u8 0, .int .u8 0, .int .u8 0, .int .u8 0, .int .u8 0, .int .u8 0, .int .u8 0, .int .u8 0, .int .u8 0] 34 (0, 0))) (by rw [List.size_toArray, CL.out]; exact info34c) (by simp only [List.size_toArray, CL.out]; rfl) (stp_one x) (stop ?_)))
      unfold Stop
      have B5 := Aside0.mk (blk_new wr (.cells #[.int .i64 0, .string ⟨#[]⟩, .int .i64 0, .int .u8 0, .int .u8 0, .int .u8 0, .int .u8 0, .int .u8 0, .int .u8 0, .int .u8 0, .int .u8 0, .int .u8 0, .int .u8 0, .int .u8 0, .int .u8 0, .int .u8 0, .int .u8 0, .int .u8 0, .int .u8 0, .int .u8 0, .int .u8 0, .int .u8 0, .int .u8 0, .int .u8 0, .int .u8 0, .int .u8 0, .int .u8 0, .int .u8 0, .int .u8 0, .int .u8 0, .int .u8 0, .int .u8 0, .int .u8 0, .int .u8 0, .int .u8 0] 34 (0, 0)))
      have XG := Aside0.mk (setRow_heap _ wr.heap.size #[.int .i64 0, .string ⟨#[]⟩, .int .i64 0, .int .u8 0, .int .u8 0, .int .u8 0, .int .u8 0, .int .u8 0, .int .u8 0, .int .u8 0, .int .u8 0, .int .u8 0, .int .u8 0, .int .u8 0, .int .u8 0, .int .u8 0, .int .u8 0, .int .u8 0, .int .u8 0, .int .u8 0, .int .u8 0, .int .u8 0, .int .u8 0, .int .u8 0, .int .u8 0, .int .u8 0, .int .u8 0, .int .u8 0, .int .u8 0, .int .u8 0, .int .u8 0, .int .u8 0, .int .u8 0, .int .u8 0, .int .u8 0] x.cells.toArray 34 (0, 0) B5.out)
      have BS : Aside0 (Below wr.heap.size wr ((wr.alloc (.cells #[.int .i64 0, .string ⟨#[]⟩, .int .i64 0, .int .u8 0, .int .u8 0, .int .u8 0, .int .u8 0, .int .u8 0, .int .u8 0, .int .u8 0, .int .u8 0, .int .u8 0, .int .u8 0, .int .u8 0, .int .u8 0, .int .u8 0, .int .u8 0, .int .u8 0, .int .u8 0, .int .u8 0, .int .u8 0, .int .u8 0, .int .u8 0, .int .u8 0, .int .u8 0, .int .u8 0, .int .u8 0, .int .u8 0, .int .u8 0, .int .u8 0, .int .u8 0, .int .u8 0, .int .u8 0, .int .u8 0, .int .u8 0] 34 (0, 0))).setRow wr.heap.size x.cells.toArray)) := ⟨below_setRow (below_alloc (Below.refl _ _) (.cells #[.int .i64 0, .string ⟨#[]⟩, .int .i64 0, .int .u8 0, .int .u8 0, .int .u8 0, .int .u8 0, .int .u8 0, .int .u8 0, .int .u8 0, .int .u8 0, .int .u8 0, .int .u8 0, .int .u8 0, .int .u8 0, .int .u8 0, .int .u8 0, .int .u8 0, .int .u8 0, .int .u8 0, .int .u8 0, .int .u8 0, .int .u8 0, .int .u8 0, .int .u8 0, .int .u8 0, .int .u8 0, .int .u8 0, .int .u8 0, .int .u8 0, .int .u8 0, .int .u8 0, .int .u8 0, .int .u8 0, .int .u8 0] 34 (0, 0))) (Nat.le_refl _) x.cells.toArray⟩
      have NX : Aside0 (wr.heap.size ∉ foot mb gs v) := ⟨fun h => by have := rep_foot_lt R.out _ h; omega⟩
      have NY : Aside0 (wr.heap.size ∉ foot qb gq vq) := ⟨fun h => by have := repq_foot_lt Q.out _ h; omega⟩
      replace R := Aside0.mk (R.out.below BS.out)
      replace Q := Aside0.mk (Q.out.below BS.out)
      replace BL := Aside0.mk (below_on HB.out BL.out BS.out)
      clear BS B5 RX
      generalize (wr.alloc (.cells #[.int .i64 0, .string ⟨#[]⟩, .int .i64 0, .int .u8 0, .int .u8 0, .int .u8 0, .int .u8 0, .int .u8 0, .int .u8 0, .int .u8 0, .int .u8 0, .int .u8 0, .int .u8 0, .int .u8 0, .int .u8 0, .int .u8 0, .int .u8 0, .int .u8 0, .int .u8 0, .int .u8 0, .int .u8 0, .int .u8 0, .int .u8 0, .int .u8 0, .int .u8 0, .int .u8 0, .int .u8 0, .int .u8 0, .int .u8 0, .int .u8 0, .int .u8 0, .int .u8 0, .int .u8 0, .int .u8 0, .int .u8 0] 34 (0, 0))).setRow wr.heap.size x.cells.toArray = w5 at *
      generalize wr.heap.size = gx at *
      have HI : i + 1 ≤ len := by omega
      have CB := Aside0.mk (fun (w : World) (h : w.heap[gx]? = some (Obj.cells x.cells.toArray 34 (0, 0))) => box_cells h)
      have ck := Aside0.mk (CB.out w5 XG.out).1
      by_cases hk0 : x.k = 0
      · have k0 : (x.k == 0) = true := by simp [hk0]
        have c0 := ck.out
        clear hk0 ck
        generalize x.k = xk at c0 k0
        go_wp2_with fail
        refine start_ (n := 13) (S := fun w' => w'.heap[gx]? = some (.cells x.cells.toArray 34 (0, 0))) (ds := []) #[false, false, false, false, false, false, false, false, false, false, false, false, false] (by kernel_rfl) rfl rfl (XG.out) (fun hHeld => ?_)
        replace R := Aside0.mk (R.out.below (below_drew1 (Below.refl w5.heap.size w5)))
        replace Q := Aside0.mk (Q.out.below (below_drew1 (Below.refl w5.heap.size w5)))
        replace BL := Aside0.mk (below_on HB.out BL.out (below_drew1 (Below.refl w5.heap.size w5)))
        clear XG
        generalize w5.drew = w6 at R Q BL hHeld ⊢
        refine pure_ (i := 0) (N := (some 36)) (v := ?_) (a' := ?_) #[true, false, false, false, false, false, false, false, false, false, false, false, false] rfl rfl (by kernel_rfl) (fun _ _ _ h => h) (Or.inl ⟨by rfl, ?_⟩) ?_ ?_
        rotate_left
        · intro w'
          go_simp
          with_reducible rfl
        rotate_left
        · simp only [Act.put, List.setIfInBounds_toArray, List.set_cons_zero, List.set_cons_succ, i64_w, i32_w]
          rfl
        refine pure_ (i := 1) (N := (some 37)) (v := ?_) (a' := ?_) #[true, true, false, false, false, false, false, false, false, false, false, false, false] rfl rfl (by kernel_rfl) (fun _ _ _ h => h) (Or.inl ⟨by rfl, ?_⟩) ?_ ?_
        rotate_left
        · intro w'
          go_simp
          with_reducible rfl
        rotate_left
        · simp only [Act.put, List.setIfInBounds_toArray, List.set_cons_zero, List.set_cons_succ, i64_w, i32_w]
          rfl
        refine pure_ (i := 3) (N := (some 39)) (v := ?_) (a' := ?_) #[true, true, false, true, false, false, false, false, false, false, false, false, false] rfl rfl (by kernel_rfl) (fun _ _ _ h => h) (Or.inl ⟨by rfl, ?_⟩) ?_ ?_
        rotate_left
        · intro w'
          go_simp
          with_reducible rfl
        rotate_left
        · simp only [Act.put, List.setIfInBounds_toArray, List.set_cons_zero, List.set_cons_succ, i64_w, i32_w]
          rfl
        refine pure_ (i := 6) (N := (some 42)) (v := ?_) (a' := ?_) #[true, true, false, true, false, false, true, false, false, false, false, false, false] rfl rfl (by kernel_rfl) (fun _ _ _ h => h) (Or.inl ⟨by rfl, ?_⟩) ?_ ?_
        rotate_left
        · intro w'
          go_simp
          with_reducible rfl
        rotate_left
        · simp only [Act.put, List.setIfInBounds_toArray, List.set_cons_zero, List.set_cons_succ, i64_w, i32_w]
          rfl
        refine pure_ (i := 7) (N := (some 43)) (v := ?_) (a' := ?_) #[true, true, false, true, false, false, true, true, false, false, false, false, false] rfl rfl (by kernel_rfl) (fun _ _ _ h => h) (Or.inl ⟨by rfl, ?_⟩) ?_ ?_
        rotate_left
        · intro w'
          go_simp
          with_reducible rfl
        rotate_left
        · simp only [Act.put, List.setIfInBounds_toArray, List.set_cons_zero, List.set_cons_succ, i64_w, i32_w]
          rfl
        refine pure_ (i := 9) (N := (some 45)) (v := ?_) (a' := ?_) #[true, true, false, true, false, false, true, true, false, true, false, false, false] rfl rfl (by kernel_rfl) (fun _ _ _ h => h) (Or.inl ⟨by rfl, ?_⟩) ?_ ?_
        rotate_left
        · intro w'
          go_simp
          with_reducible rfl
        rotate_left
        · simp only [Act.put, List.setIfInBounds_toArray, List.set_cons_zero, List.set_cons_succ, i64_w, i32_w]
          rfl
        refine take_ (i := 2) (N := (some 38)) (v := ?_) (a' := ?_) #[true, true, true, true, false, false, true, true, false, true, false, false, false] rfl rfl (by kernel_rfl) (fun _ _ _ h => h) (Or.inl ⟨by rfl, ?_⟩) hHeld ?_ ?_
        rotate_left
        · intro w' s0
          have c0 := CB.out w' s0
          have c1 := c0.2.1
          have c2 := c0.2.2.1
          go_simp
          with_reducible rfl
        rotate_left
        · simp only [Act.put, List.setIfInBounds_toArray, List.set_cons_zero, List.set_cons_succ, i64_w, i32_w]
          rfl
        refine take_ (i := 4) (N := (some 40)) (v := ?_) (a' := ?_) #[true, true, true, true, true, false, true, true, false, true, false, false, false] rfl rfl (by kernel_rfl) (fun _ _ _ h => h) (Or.inl ⟨by rfl, ?_⟩) hHeld ?_ ?_
        rotate_left
        · intro w' s0
          have c0 := CB.out w' s0
          have c1 := c0.2.1
          have c2 := c0.2.2.1
          go_simp
          with_reducible rfl
        rotate_left
        · simp only [Act.put, List.setIfInBounds_toArray, List.set_cons_zero, List.set_cons_succ, i64_w, i32_w]
          rfl
        refine take_ (i := 8) (N := (some 44)) (v := ?_) (a' := ?_) #[true, true, true, true, true, false, true, true, true, true, false, false, false] rfl rfl (by kernel_rfl) (fun _ _ _ h => h) (Or.inl ⟨by rfl, ?_⟩) hHeld ?_ ?_
        rotate_left
        · intro w' s0
          have c0 := CB.out w' s0
          have c1 := c0.2.1
          have c2 := c0.2.2.1
          go_simp
          with_reducible rfl
        rotate_left
        · simp only [Act.put, List.setIfInBounds_toArray, List.set_cons_zero, List.set_cons_succ, i64_w, i32_w]
          rfl
        refine take_ (i := 10) (N := (some 46)) (v := ?_) (a' := ?_) #[true, true, true, true, true, false, true, true, true, true, true, false, false] rfl rfl (by kernel_rfl) (fun _ _ _ h => h) (Or.inl ⟨by rfl, ?_⟩) hHeld ?_ ?_
        rotate_left
        · intro w' s0
          have c0 := CB.out w' s0
          have c1 := c0.2.1
          have c2 := c0.2.2.1
          go_simp
          with_reducible rfl
        rotate_left
        · simp only [Act.put, List.setIfInBounds_toArray, List.set_cons_zero, List.set_cons_succ, i64_w, i32_w]
          rfl
        refine one_ (i := 5) (N := (some 41)) #[true, true, true, true, true, true, true, true, true, true, true, false, false] rfl rfl (by kernel_rfl) (by decide) (fun K hK => ?_)
        refine goes_ Tryd.func10 (by kernel_rfl) rfl #[.pointer (some ⟨mb, 0, none⟩), .string x.name, .int .i64 x.n] (by rfl) rfl rfl (by simp only [List.map_toArray, List.map_cons, List.map_nil]; rfl) ?_
        with_reducible refine (make_any R.out x.name x.n NS.out).mono ?_
        rintro e w46 ⟨rfl, gs1, v1, R1, M1⟩
        have NX1 := moves_not M1 hHeld NX.out
        have X1 := NX1.2
        replace NX := Aside0.mk NX1.1
        clear NX1
        have QW := Q
        replace Q := Aside0.mk (quiet_q Q.out M1 D.out)
        replace D := Aside0.mk (D.out.left M1 (fun j hj => repq_foot_lt QW.out j hj))
        replace BL : Aside0 (Below base w w46) := ⟨BL.out.trans (below_of_moves R.out M1)⟩
        replace R := Aside0.mk R1
        clear QW
        refine ⟨_, rfl, ?_⟩
        refine hK.out _ _ (X1) (fun hHeld => ?_)
        clear hK K
        refine norm_ (a' := ?_) ?_ ?_
        rotate_left
        · show Act.put _ (some 41) _ = _
          simp only [Act.put, List.setIfInBounds_toArray, List.set_cons_zero, List.set_cons_succ, i64_w, i32_w]
          rfl
        refine one_ (i := 11) (N := (some 47)) #[true, true, true, true, true, true, true, true, true, true, true, true, false] rfl rfl (by kernel_rfl) (by decide) (fun K hK => ?_)
        refine goes_ Tryd.func11 (by kernel_rfl) rfl #[.pointer (some ⟨qb, 0, none⟩), .string x.name, .int .i64 x.n] (by rfl) rfl rfl (by simp only [List.map_toArray, List.map_cons, List.map_nil]; rfl) ?_
        with_reducible refine (make_q Q.out x.name x.n).mono ?_
        rintro e w47 ⟨rfl, gs2, v2, R2, M2⟩
        have NY1 := moves_not M2 hHeld NY.out
        have X1 := NY1.2
        replace NY := Aside0.mk NY1.1
        clear NY1
        have RW := R
        replace R := Aside0.mk (quiet_m R.out M2 D.out)
        replace D := Aside0.mk (D.out.right M2 (fun j hj => rep_foot_lt RW.out j hj))
        replace BL : Aside0 (Below base w w47) := ⟨BL.out.trans (below_of_movesq Q.out M2)⟩
        replace Q := Aside0.mk R2
        clear RW
        refine ⟨_, rfl, ?_⟩
        refine hK.out _ _ (X1) (fun hHeld => ?_)
        clear hK K
        refine norm_ (a' := ?_) ?_ ?_
        rotate_left
        · show Act.put _ (some 47) _ = _
          simp only [Act.put, List.setIfInBounds_toArray, List.set_cons_zero, List.set_cons_succ, i64_w, i32_w]
          rfl
        refine pure_ (i := 12) (N := (some 48)) (v := ?_) (a' := ?_) #[true, true, true, true, true, true, true, true, true, true, true, true, true] rfl rfl (by kernel_rfl) (fun _ _ _ h => h) (Or.inl ⟨by rfl, ?_⟩) ?_ ?_
        rotate_left
        · intro w'
          go_simp
          with_reducible rfl
        rotate_left
        · simp only [Act.put, List.setIfInBounds_toArray, List.set_cons_zero, List.set_cons_succ, i64_w, i32_w]
          rfl
        refine done_ (by kernel_rfl) ?_
        generalize (makeRes L x.name x.n) = rr at *
        go_wp2_with fail
        refine (names_any R.out).mono ?_
        rintro e w41 ⟨u1, rfl, own1, hb⟩
        have T1 := Aside0.mk (names_trow own1)
        replace R := Aside0.mk (R.out.below hb)
        replace Q := Aside0.mk (Q.out.below hb)
        replace BL : Aside0 (Below base w w41) := ⟨below_on HB.out BL.out hb⟩
        clear own1 hb
        go_wp2_with fail
        refine (names_q Q.out).mono ?_
        rintro e w42 ⟨u2, rfl, own2, hb⟩
        have T2 := Aside0.mk (names_trow own2)
        replace T1 := Aside0.mk (trow_below T1.out hb)
        replace R := Aside0.mk (R.out.below hb)
        replace Q := Aside0.mk (Q.out.below hb)
        replace BL : Aside0 (Below base w w42) := ⟨below_on HB.out BL.out hb⟩
        clear own2 hb
        go_wp2_with fail
        refine (tx2 T1.out T2.out).mono ?_
        rintro e w43 ⟨rfl, hb⟩
        replace R := Aside0.mk (R.out.below hb)
        replace Q := Aside0.mk (Q.out.below hb)
        replace BL : Aside0 (Below base w w43) := ⟨below_on HB.out BL.out hb⟩
        clear hb T1 T2
        go_wp2_with fail
        refine (free_any R.out).mono ?_
        rintro e w44 ⟨rfl, hb⟩
        replace R := Aside0.mk (R.out.below hb)
        replace Q := Aside0.mk (Q.out.below hb)
        replace BL : Aside0 (Below base w w44) := ⟨below_on HB.out BL.out hb⟩
        clear hb
        go_wp2_with fail
        refine (free_q Q.out).mono ?_
        rintro e w45 ⟨rfl, hb⟩
        replace R := Aside0.mk (R.out.below hb)
        replace Q := Aside0.mk (Q.out.below hb)
        replace BL : Aside0 (Below base w w45) := ⟨below_on HB.out BL.out hb⟩
        clear hb
        go_wp2_with fail
        go_roundw
        case measure => simp [intOf]; omega
        case rel => exact ⟨i + 1, (makeL L x.name x.n), gs1, v1, gs2, v2, by omega, by go_num, R, Q, D, BL⟩
      by_cases hk1 : x.k = 1
      · have k0 : (x.k == 0) = false := by simp [hk0]
        have k1 : (x.k == 1) = true := by simp [hk1]
        have c0 := ck.out
        clear hk0 hk1 ck
        generalize x.k = xk at c0 k0 k1
        go_wp2_with fail
        refine start_ (n := 9) (S := fun w' => w'.heap[gx]? = some (.cells x.cells.toArray 34 (0, 0))) (ds := []) #[false, false, false, false, false, false, false, false, false] (by kernel_rfl) rfl rfl (XG.out) (fun hHeld => ?_)
        replace R := Aside0.mk (R.out.below (below_drew1 (Below.refl w5.heap.size w5)))
        replace Q := Aside0.mk (Q.out.below (below_drew1 (Below.refl w5.heap.size w5)))
        replace BL := Aside0.mk (below_on HB.out BL.out (below_drew1 (Below.refl w5.heap.size w5)))
        clear XG
        generalize w5.drew = w6 at R Q BL hHeld ⊢
        refine pure_ (i := 0) (N := (some 51)) (v := ?_) (a' := ?_) #[true, false, false, false, false, false, false, false, false] rfl rfl (by kernel_rfl) (fun _ _ _ h => h) (Or.inl ⟨by rfl, ?_⟩) ?_ ?_
        rotate_left
        · intro w'
          go_simp
          with_reducible rfl
        rotate_left
        · simp only [Act.put, List.setIfInBounds_toArray, List.set_cons_zero, List.set_cons_succ, i64_w, i32_w]
          rfl
        refine pure_ (i := 1) (N := (some 52)) (v := ?_) (a' := ?_) #[true, true, false, false, false, false, false, false, false] rfl rfl (by kernel_rfl) (fun _ _ _ h => h) (Or.inl ⟨by rfl, ?_⟩) ?_ ?_
        rotate_left
        · intro w'
          go_simp
          with_reducible rfl
        rotate_left
        · simp only [Act.put, List.setIfInBounds_toArray, List.set_cons_zero, List.set_cons_succ, i64_w, i32_w]
          rfl
        refine pure_ (i := 4) (N := (some 55)) (v := ?_) (a' := ?_) #[true, true, false, false, true, false, false, false, false] rfl rfl (by kernel_rfl) (fun _ _ _ h => h) (Or.inl ⟨by rfl, ?_⟩) ?_ ?_
        rotate_left
        · intro w'
          go_simp
          with_reducible rfl
        rotate_left
        · simp only [Act.put, List.setIfInBounds_toArray, List.set_cons_zero, List.set_cons_succ, i64_w, i32_w]
          rfl
        refine pure_ (i := 5) (N := (some 56)) (v := ?_) (a' := ?_) #[true, true, false, false, true, true, false, false, false] rfl rfl (by kernel_rfl) (fun _ _ _ h => h) (Or.inl ⟨by rfl, ?_⟩) ?_ ?_
        rotate_left
        · intro w'
          go_simp
          with_reducible rfl
        rotate_left
        · simp only [Act.put, List.setIfInBounds_toArray, List.set_cons_zero, List.set_cons_succ, i64_w, i32_w]
          rfl
        refine take_ (i := 2) (N := (some 53)) (v := ?_) (a' := ?_) #[true, true, true, false, true, true, false, false, false] rfl rfl (by kernel_rfl) (fun _ _ _ h => h) (Or.inl ⟨by rfl, ?_⟩) hHeld ?_ ?_
        rotate_left
        · intro w' s0
          have c0 := CB.out w' s0
          have c1 := c0.2.1
          have c2 := c0.2.2.1
          go_simp
          with_reducible rfl
        rotate_left
        · simp only [Act.put, List.setIfInBounds_toArray, List.set_cons_zero, List.set_cons_succ, i64_w, i32_w]
          rfl
        refine take_ (i := 6) (N := (some 57)) (v := ?_) (a' := ?_) #[true, true, true, false, true, true, true, false, false] rfl rfl (by kernel_rfl) (fun _ _ _ h => h) (Or.inl ⟨by rfl, ?_⟩) hHeld ?_ ?_
        rotate_left
        · intro w' s0
          have c0 := CB.out w' s0
          have c1 := c0.2.1
          have c2 := c0.2.2.1
          go_simp
          with_reducible rfl
        rotate_left
        · simp only [Act.put, List.setIfInBounds_toArray, List.set_cons_zero, List.set_cons_succ, i64_w, i32_w]
          rfl
        refine one_ (i := 3) (N := (some 54)) #[true, true, true, true, true, true, true, false, false] rfl rfl (by kernel_rfl) (by decide) (fun K hK => ?_)
        refine goes_ Tryd.func12 (by kernel_rfl) rfl #[.pointer (some ⟨mb, 0, none⟩), .string x.name] (by rfl) rfl rfl (by simp only [List.map_toArray, List.map_cons, List.map_nil]; rfl) ?_
        with_reducible refine (gone_any R.out x.name).mono ?_
        rintro e w53 ⟨rfl, gs1, v1, R1, M1⟩
        have NX1 := moves_not M1 hHeld NX.out
        have X1 := NX1.2
        replace NX := Aside0.mk NX1.1
        clear NX1
        have QW := Q
        replace Q := Aside0.mk (quiet_q Q.out M1 D.out)
        replace D := Aside0.mk (D.out.left M1 (fun j hj => repq_foot_lt QW.out j hj))
        replace BL : Aside0 (Below base w w53) := ⟨BL.out.trans (below_of_moves R.out M1)⟩
        replace R := Aside0.mk R1
        clear QW
        refine ⟨_, rfl, ?_⟩
        refine hK.out _ _ (X1) (fun hHeld => ?_)
        clear hK K
        refine norm_ (a' := ?_) ?_ ?_
        rotate_left
        · show Act.put _ (some 54) _ = _
          simp only [Act.put, List.setIfInBounds_toArray, List.set_cons_zero, List.set_cons_succ, i64_w, i32_w]
          rfl
        refine one_ (i := 7) (N := (some 58)) #[true, true, true, true, true, true, true, true, false] rfl rfl (by kernel_rfl) (by decide) (fun K hK => ?_)
        refine goes_ Tryd.func13 (by kernel_rfl) rfl #[.pointer (some ⟨qb, 0, none⟩), .string x.name] (by rfl) rfl rfl (by simp only [List.map_toArray, List.map_cons, List.map_nil]; rfl) ?_
        with_reducible refine (gone_q Q.out x.name).mono ?_
        rintro e w54 ⟨rfl, gs2, v2, R2, M2⟩
        have NY1 := moves_not M2 hHeld NY.out
        have X1 := NY1.2
        replace NY := Aside0.mk NY1.1
        clear NY1
        have RW := R
        replace R := Aside0.mk (quiet_m R.out M2 D.out)
        replace D := Aside0.mk (D.out.right M2 (fun j hj => rep_foot_lt RW.out j hj))
        replace BL : Aside0 (Below base w w54) := ⟨BL.out.trans (below_of_movesq Q.out M2)⟩
        replace Q := Aside0.mk R2
        clear RW
        refine ⟨_, rfl, ?_⟩
        refine hK.out _ _ (X1) (fun hHeld => ?_)
        clear hK K
        refine norm_ (a' := ?_) ?_ ?_
        rotate_left
        · show Act.put _ (some 58) _ = _
          simp only [Act.put, List.setIfInBounds_toArray, List.set_cons_zero, List.set_cons_succ, i64_w, i32_w]
          rfl
        refine pure_ (i := 8) (N := (some 59)) (v := ?_) (a' := ?_) #[true, true, true, true, true, true, true, true, true] rfl rfl (by kernel_rfl) (fun _ _ _ h => h) (Or.inl ⟨by rfl, ?_⟩) ?_ ?_
        rotate_left
        · intro w'
          go_simp
          with_reducible rfl
        rotate_left
        · simp only [Act.put, List.setIfInBounds_toArray, List.set_cons_zero, List.set_cons_succ, i64_w, i32_w]
          rfl
        refine done_ (by kernel_rfl) ?_
        generalize (goneRes L x.name) = rr at *
        go_wp2_with fail
        refine (names_any R.out).mono ?_
        rintro e w48 ⟨u1, rfl, own1, hb⟩
        have T1 := Aside0.mk (names_trow own1)
        replace R := Aside0.mk (R.out.below hb)
        replace Q := Aside0.mk (Q.out.below hb)
        replace BL : Aside0 (Below base w w48) := ⟨below_on HB.out BL.out hb⟩
        clear own1 hb
        go_wp2_with fail
        refine (names_q Q.out).mono ?_
        rintro e w49 ⟨u2, rfl, own2, hb⟩
        have T2 := Aside0.mk (names_trow own2)
        replace T1 := Aside0.mk (trow_below T1.out hb)
        replace R := Aside0.mk (R.out.below hb)
        replace Q := Aside0.mk (Q.out.below hb)
        replace BL : Aside0 (Below base w w49) := ⟨below_on HB.out BL.out hb⟩
        clear own2 hb
        go_wp2_with fail
        refine (tx2 T1.out T2.out).mono ?_
        rintro e w50 ⟨rfl, hb⟩
        replace R := Aside0.mk (R.out.below hb)
        replace Q := Aside0.mk (Q.out.below hb)
        replace BL : Aside0 (Below base w w50) := ⟨below_on HB.out BL.out hb⟩
        clear hb T1 T2
        go_wp2_with fail
        refine (free_any R.out).mono ?_
        rintro e w51 ⟨rfl, hb⟩
        replace R := Aside0.mk (R.out.below hb)
        replace Q := Aside0.mk (Q.out.below hb)
        replace BL : Aside0 (Below base w w51) := ⟨below_on HB.out BL.out hb⟩
        clear hb
        go_wp2_with fail
        refine (free_q Q.out).mono ?_
        rintro e w52 ⟨rfl, hb⟩
        replace R := Aside0.mk (R.out.below hb)
        replace Q := Aside0.mk (Q.out.below hb)
        replace BL : Aside0 (Below base w w52) := ⟨below_on HB.out BL.out hb⟩
        clear hb
        go_wp2_with fail
        go_roundw
        case measure => simp [intOf]; omega
        case rel => exact ⟨i + 1, (goneL L x.name), gs1, v1, gs2, v2, by omega, by go_num, R, Q, D, BL⟩
      by_cases hk2 : x.k = 2
      · have k0 : (x.k == 0) = false := by simp [hk0]
        have k1 : (x.k == 1) = false := by simp [hk1]
        have k2 : (x.k == 2) = true := by simp [hk2]
        clear hk0 hk1 hk2
        by_cases he : atRes L x.name x.n = 0
        · have AQ := Aside0.mk (at_q Q.out x.name x.n)
          have WR : Aside0 (∀ W, Rep base W mb L gs v → Calls Tryd.prog 15 #[.pointer (some ⟨mb, 0, none⟩), .string x.name, .int .i64 x.n, .agg (x.d.map (Value.int .u8)).toArray] W fun e w' => e = .returned (.int .i64 0) ∧ Rep base w' mb (writeL L x.name x.n x.d) gs v ∧ Moves (foot mb gs v) (foot mb gs v) W w') := ⟨fun W r => by have := write_any r x.name x.n x.d HD.out; rwa [he] at this⟩
          obtain ⟨i0, k0n, ga2, cap2, g2, hi0, hxn, hil, hlc, hkb, hb4, hLx, hgx2, hvq, hqc, hqv, h32, hblk⟩ := q_block Q.out he
          have XN := Aside0.mk hxn
          have AF : Aside0 (atFst L x.name x.n = i0) := ⟨by unfold atFst; rw [if_pos he, hi0]⟩
          have WL : Aside0 (writeL L x.name x.n x.d = setBlk L i0 k0n (volOf L x.name) x.d) := ⟨by unfold writeL; rw [if_pos he, hi0, hxn, Int.toNat_natCast, Int.toNat_natCast]⟩
          have RV : Aside0 (readVal L x.name x.n = (volOf L x.name).blocks.getD k0n zero32) := ⟨by unfold readVal; rw [if_pos he, hxn, Int.toNat_natCast]⟩
          have GM : Aside0 (g2 ∈ foot qb gq vq) := ⟨by have := List.mem_of_getElem? hgx2; simp [foot, this]⟩
          have QV : Aside0 (vq.ownBlock = some ga2) := ⟨by rw [hvq]; rfl⟩
          have SHP : Aside0 (∀ W, RepQ base W qb L gq vq → W.cell? ⟨qb, 0, none⟩ = some (.slice (some ⟨ga2, 0, none⟩) L.length cap2) ∧ W.cell? ⟨ga2, i0 * 2 + 1, none⟩ = some (.slice (some ⟨g2, 0, none⟩) (volOf L x.name).blocks.length (volOf L x.name).blocks.length) ∧ W.heap[g2]? = some (.cells (blkCells (volOf L x.name).blocks).toArray 32 (0, 0))) := ⟨fun W q => by
            obtain ⟨i0', k0', ga2', cap2', g2', a1, a2, a3, a4, a5, a6, a7, a8, a9, a10, a11, a12, a13⟩ := q_block q he
            have e1 : i0' = i0 := by omega
            subst e1
            rw [hvq] at a9
            injection a9 with a9 _ a9c
            injection a9 with a9
            injection a9 with a9 _ _
            subst a9 a9c
            rw [hgx2] at a8
            injection a8 with a8
            subst a8
            exact ⟨a10, a11, a13⟩⟩
          have H32 := Aside0.mk h32
          have HLX := Aside0.mk hLx
          have HGX := Aside0.mk hgx2
          have b0 : (0 : Int) ≤ (i0 : Int) := by omega
          have b1 : (i0 : Int) < (L.length : Int) := by omega
          have b2 : (0 : Int) ≤ (k0n : Int) := by omega
          have b3 : (k0n : Int) < ((volOf L x.name).blocks.length : Int) := by omega
          have hL3 := Q.out.few
          clear hi0 hxn hLx hgx2 hvq hqc hqv h32 hblk
          obtain ⟨lenq, LQ⟩ : ∃ n, Aside0 (L.length = n) := ⟨_, ⟨rfl⟩⟩
          obtain ⟨lenb, LB⟩ : ∃ n, Aside0 ((volOf L x.name).blocks.length = n) := ⟨_, ⟨rfl⟩⟩
          rw [LQ.out] at b1 hL3 hil hlc
          rw [LB.out] at b3 hkb hb4
          rw [AF.out, he] at AQ
          clear he
          have cb0 := Aside0.mk (CB.out w5 XG.out)
          have c0 := ck.out
          have c1 := cb0.out.2.1
          have c2 := cb0.out.2.2.1
          clear cb0 ck
          generalize x.k = xk at c0 k0 k1 k2
          go_wp2_with fail
          refine AQ.out.mono ?_
          rintro e w55 ⟨rfl, hb⟩
          replace R := Aside0.mk (R.out.below hb)
          replace Q := Aside0.mk (Q.out.below hb)
          replace BL : Aside0 (Below base w w55) := ⟨below_on HB.out BL.out hb⟩
          replace XG := Aside0.mk (blk_below XG.out hb)
          have cb := Aside0.mk (CB.out _ XG.out)
          clear hb AQ c0 c1 c2
          have c1 := cb.out.2.1
          have c2 := cb.out.2.2.1
          have RD := Aside0.mk cb.out.2.2.2
          clear cb
          go_wp2_with (first | (refine wpList_load_mid rfl 32 _ rfl gx 3 rfl (x.d.map (Value.int .u8)) _ RD.out Tryd.underlying32 rfl (by rw [DL.out]; kernel_rfl) ?_))
          refine (WR.out _ R.out).mono ?_
          rintro e w56 ⟨rfl, R1, M1⟩
          replace XG := Aside0.mk (moves_not M1 XG.out NX.out).2
          have QW := Q
          replace Q := Aside0.mk (quiet_q Q.out M1 D.out)
          replace D := Aside0.mk (D.out.left M1 (fun j hj => repq_foot_lt QW.out j hj))
          replace BL : Aside0 (Below base w w56) := ⟨BL.out.trans (below_of_moves R.out M1)⟩
          replace R := Aside0.mk R1
          clear QW
          clear R1 M1 WR c1 c2 RD
          go_wp2_with fail
          refine start_ (n := 14) (S := fun w' => w'.cell? ⟨qb, 0, none⟩ = some (.slice (some ⟨ga2, 0, none⟩) lenq cap2) ∧ w'.cell? ⟨ga2, i0 * 2 + 1, none⟩ = some (.slice (some ⟨g2, 0, none⟩) lenb lenb) ∧ w'.heap[gx]? = some (.cells x.cells.toArray 34 (0, 0))) (ds := [13]) #[false, false, false, false, false, false, false, false, false, false, false, false, false, false] (by kernel_rfl) rfl rfl ⟨(LQ.out ▸ (SHP.out _ Q.out).1), (LB.out ▸ (SHP.out _ Q.out).2.1), XG.out⟩ (fun hHeld => ?_)
          have QD := Q
          replace R := Aside0.mk (R.out.below (below_drew1 (Below.refl w56.heap.size w56)))
          replace Q := Aside0.mk (Q.out.below (below_drew1 (Below.refl w56.heap.size w56)))
          replace BL := Aside0.mk (below_on HB.out BL.out (below_drew1 (Below.refl w56.heap.size w56)))
          clear XG QD
          generalize w56.drew = wd1 at R Q BL hHeld ⊢
          refine pure_ (i := 0) (N := (some 83)) (v := ?_) (a' := ?_) #[true, false, false, false, false, false, false, false, false, false, false, false, false, false] rfl rfl (by kernel_rfl) (fun _ _ _ h => h) (Or.inl ⟨by rfl, ?_⟩) ?_ ?_
          rotate_left
          · intro w'
            go_simp
            with_reducible rfl
          rotate_left
          · simp only [Act.put, List.setIfInBounds_toArray, List.set_cons_zero, List.set_cons_succ, i64_w, i32_w]
            rfl
          refine pure_ (i := 1) (N := (some 84)) (v := ?_) (a' := ?_) #[true, true, false, false, false, false, false, false, false, false, false, false, false, false] rfl rfl (by kernel_rfl) (fun _ _ _ h => h) (Or.inl ⟨by rfl, ?_⟩) ?_ ?_
          rotate_left
          · intro w'
            go_simp
            with_reducible rfl
          rotate_left
          · simp only [Act.put, List.setIfInBounds_toArray, List.set_cons_zero, List.set_cons_succ, i64_w, i32_w]
            rfl
          refine pure_ (i := 2) (N := (some 85)) (v := ?_) (a' := ?_) #[true, true, true, false, false, false, false, false, false, false, false, false, false, false] rfl rfl (by kernel_rfl) (fun _ _ _ h => h) (Or.inl ⟨by rfl, ?_⟩) ?_ ?_
          rotate_left
          · intro w'
            go_simp
            with_reducible rfl
          rotate_left
          · simp only [Act.put, List.setIfInBounds_toArray, List.set_cons_zero, List.set_cons_succ, i64_w, i32_w]
            rfl
          refine pure_ (i := 4) (N := (some 87)) (v := ?_) (a' := ?_) #[true, true, true, false, true, false, false, false, false, false, false, false, false, false] rfl rfl (by kernel_rfl) (fun _ _ _ h => h) (Or.inl ⟨by rfl, ?_⟩) ?_ ?_
          rotate_left
          · intro w'
            go_simp
            with_reducible rfl
          rotate_left
          · simp only [Act.put, List.setIfInBounds_toArray, List.set_cons_zero, List.set_cons_succ, i64_w, i32_w]
            rfl
          refine pure_ (i := 8) (N := (some 91)) (v := ?_) (a' := ?_) #[true, true, true, false, true, false, false, false, true, false, false, false, false, false] rfl rfl (by kernel_rfl) (fun _ _ _ h => h) (Or.inl ⟨by rfl, ?_⟩) ?_ ?_
          rotate_left
          · intro w'
            go_simp
            with_reducible rfl
          rotate_left
          · simp only [Act.put, List.setIfInBounds_toArray, List.set_cons_zero, List.set_cons_succ, i64_w, i32_w]
            rfl
          refine pure_ (i := 10) (N := (some 93)) (v := ?_) (a' := ?_) #[true, true, true, false, true, false, false, false, true, false, true, false, false, false] rfl rfl (by kernel_rfl) (fun _ _ _ h => h) (Or.inl ⟨by rfl, ?_⟩) ?_ ?_
          rotate_left
          · intro w'
            go_simp
            with_reducible rfl
          rotate_left
          · simp only [Act.put, List.setIfInBounds_toArray, List.set_cons_zero, List.set_cons_succ, i64_w, i32_w]
            rfl
          refine take_ (i := 3) (N := (some 86)) (v := ?_) (a' := ?_) #[true, true, true, true, true, false, false, false, true, false, true, false, false, false] rfl rfl (by kernel_rfl) (fun _ _ _ h => h) (Or.inl ⟨by rfl, ?_⟩) hHeld ?_ ?_
          rotate_left
          · rintro w' ⟨s0, s1, s2⟩
            have c0 := CB.out w' s2
            have c2 : w'.cell? ⟨gx, 2, none⟩ = some (.int .i64 (k0n : Int)) := by rw [c0.2.2.1, XN.out]
            clear c0
            go_simp
            with_reducible rfl
          rotate_left
          · simp only [Act.put, List.setIfInBounds_toArray, List.set_cons_zero, List.set_cons_succ, i64_w, i32_w]
            rfl
          refine pure_ (i := 5) (N := (some 88)) (v := ?_) (a' := ?_) #[true, true, true, true, true, true, false, false, true, false, true, false, false, false] rfl rfl (by kernel_rfl) (fun _ _ _ h => h) (Or.inl ⟨by rfl, ?_⟩) ?_ ?_
          rotate_left
          · intro w'
            go_simp
            with_reducible rfl
          rotate_left
          · simp only [Act.put, List.setIfInBounds_toArray, List.set_cons_zero, List.set_cons_succ, i64_w, i32_w]
            rfl
          refine pure_ (i := 6) (N := (some 89)) (v := ?_) (a' := ?_) #[true, true, true, true, true, true, true, false, true, false, true, false, false, false] rfl rfl (by kernel_rfl) (fun _ _ _ h => h) (Or.inl ⟨by rfl, ?_⟩) ?_ ?_
          rotate_left
          · intro w'
            go_simp
            with_reducible rfl
          rotate_left
          · simp only [Act.put, List.setIfInBounds_toArray, List.set_cons_zero, List.set_cons_succ, i64_w, i32_w]
            rfl
          refine take_ (i := 7) (N := (some 90)) (v := ?_) (a' := ?_) #[true, true, true, true, true, true, true, true, true, false, true, false, false, false] rfl rfl (by kernel_rfl) (fun _ _ _ h => h) (Or.inl ⟨by rfl, ?_⟩) hHeld ?_ ?_
          rotate_left
          · rintro w' ⟨s0, s1, s2⟩
            have c0 := CB.out w' s2
            have c2 : w'.cell? ⟨gx, 2, none⟩ = some (.int .i64 (k0n : Int)) := by rw [c0.2.2.1, XN.out]
            clear c0
            go_simp
            with_reducible rfl
          rotate_left
          · simp only [Act.put, List.setIfInBounds_toArray, List.set_cons_zero, List.set_cons_succ, i64_w, i32_w]
            rfl
          refine take_ (i := 9) (N := (some 92)) (v := ?_) (a' := ?_) #[true, true, true, true, true, true, true, true, true, true, true, false, false, false] rfl rfl (by kernel_rfl) (fun _ _ _ h => h) (Or.inl ⟨by rfl, ?_⟩) hHeld ?_ ?_
          rotate_left
          · rintro w' ⟨s0, s1, s2⟩
            have c0 := CB.out w' s2
            have c2 : w'.cell? ⟨gx, 2, none⟩ = some (.int .i64 (k0n : Int)) := by rw [c0.2.2.1, XN.out]
            clear c0
            go_simp
            with_reducible rfl
          rotate_left
          · simp only [Act.put, List.setIfInBounds_toArray, List.set_cons_zero, List.set_cons_succ, i64_w, i32_w]
            rfl
          refine take_ (i := 11) (N := (some 94)) (v := ?_) (a' := ?_) #[true, true, true, true, true, true, true, true, true, true, true, true, false, false] rfl rfl (by kernel_rfl) (fun _ _ _ h => h) (Or.inl ⟨by rfl, ?_⟩) hHeld ?_ ?_
          rotate_left
          · rintro w' ⟨s0, s1, s2⟩
            have c0 := CB.out w' s2
            refine (run_load_mid (by rfl) (by rfl) c0.2.2.2 Tryd.underlying32 rfl (by rw [DL.out]; kernel_rfl)).trans ?_
            with_reducible rfl
          rotate_left
          · simp only [Act.put, List.setIfInBounds_toArray, List.set_cons_zero, List.set_cons_succ, i64_w, i32_w]
            rfl
          refine pure_ (i := 12) (N := (some 95)) (v := ?_) (a' := ?_) #[true, true, true, true, true, true, true, true, true, true, true, true, true, false] rfl rfl (by kernel_rfl) (fun _ _ _ h => h) (Or.inl ⟨by rfl, ?_⟩) ?_ ?_
          rotate_left
          · intro w'
            go_simp
            with_reducible rfl
          rotate_left
          · simp only [Act.put, List.setIfInBounds_toArray, List.set_cons_zero, List.set_cons_succ, i64_w, i32_w]
            rfl
          refine last_ (i := 13) (N := none) #[true, true, true, true, true, true, true, true, true, true, true, true, true, true] rfl rfl (by kernel_rfl) (by decide) (fun K hK => ?_)
          have QW0 := Q
          have SH := SHP.out _ Q.out
          have TH := blk_there_t SH.2.2 H32.out (k := k0n) (by rw [LB.out]; omega)
          have QN := repq_write Q.out HLX.out HGX.out (d := x.d) (k := k0n) (by rw [LB.out]; omega) HD.out
          refine skip_ (w1 := wd1.setCells g2 (k0n * 32) (x.d.map (Value.int .u8))) (by rfl) rfl ?_ ?_
          · exact run_store_mid (ty := 32) (x := .tmp 95) (y := .tmp 94) rfl rfl rfl (by rw [List.size_toArray, DL.out]; exact TH) (by rw [List.size_toArray, DL.out]; kernel_rfl) (blkArr_one x.d)
          replace R := Aside0.mk (rep_touch R.out QN.2 (fun j hj hg => D.out j hj (by
              have e : j = g2 := by simpa using hg
              rw [e]
              exact GM.out)))
          replace Q := Aside0.mk QN.1
          replace BL : Aside0 (Below base w (wd1.setCells g2 (k0n * 32) (x.d.map (Value.int .u8)))) := ⟨BL.out.trans (QN.2.below (bs := [g2]) (fun j hj => by
              have e : j = g2 := by simpa using hj
              rw [e]
              exact repq_foot_ge QW0.out g2 GM.out) (by have := blk_lt QW0.out.m; have := QW0.out.ge; omega))⟩
          rw [WL.out] at R
          clear SH TH QN hHeld
          generalize wd1.setCells g2 (k0n * 32) (x.d.map (Value.int .u8)) = w62 at *
          refine hK.out _ _ ?_
          clear hK K
          refine done_ (by kernel_rfl) ?_
          go_wp2_with fail
          refine (names_any R.out).mono ?_
          rintro e w57 ⟨u1, rfl, own1, hb⟩
          have T1 := Aside0.mk (names_trow own1)
          replace R := Aside0.mk (R.out.below hb)
          replace Q := Aside0.mk (Q.out.below hb)
          replace BL : Aside0 (Below base w w57) := ⟨below_on HB.out BL.out hb⟩
          clear own1 hb
          go_wp2_with fail
          refine (names_q Q.out).mono ?_
          rintro e w58 ⟨u2, rfl, own2, hb⟩
          have T2 := Aside0.mk (names_trow own2)
          replace T1 := Aside0.mk (trow_below T1.out hb)
          replace R := Aside0.mk (R.out.below hb)
          replace Q := Aside0.mk (Q.out.below hb)
          replace BL : Aside0 (Below base w w58) := ⟨below_on HB.out BL.out hb⟩
          clear own2 hb
          go_wp2_with fail
          refine (tx2 T1.out T2.out).mono ?_
          rintro e w59 ⟨rfl, hb⟩
          replace R := Aside0.mk (R.out.below hb)
          replace Q := Aside0.mk (Q.out.below hb)
          replace BL : Aside0 (Below base w w59) := ⟨below_on HB.out BL.out hb⟩
          clear hb T1 T2
          go_wp2_with fail
          refine (free_any R.out).mono ?_
          rintro e w60 ⟨rfl, hb⟩
          replace R := Aside0.mk (R.out.below hb)
          replace Q := Aside0.mk (Q.out.below hb)
          replace BL : Aside0 (Below base w w60) := ⟨below_on HB.out BL.out hb⟩
          clear hb
          go_wp2_with fail
          refine (free_q Q.out).mono ?_
          rintro e w61 ⟨rfl, hb⟩
          replace R := Aside0.mk (R.out.below hb)
          replace Q := Aside0.mk (Q.out.below hb)
          replace BL : Aside0 (Below base w w61) := ⟨below_on HB.out BL.out hb⟩
          clear hb
          go_wp2_with fail
          go_roundw
          case measure => simp [intOf]; omega
          case rel => exact ⟨i + 1, (setBlk L i0 k0n (volOf L x.name) x.d), gs, v, gq, vq, by omega, by go_num, R, Q, D, BL⟩
        · have AQ := Aside0.mk (at_q Q.out x.name x.n)
          have WR : Aside0 (∀ W, Rep base W mb L gs v → Calls Tryd.prog 15 #[.pointer (some ⟨mb, 0, none⟩), .string x.name, .int .i64 x.n, .agg (x.d.map (Value.int .u8)).toArray] W fun e w' => e = .returned (.int .i64 (atRes L x.name x.n)) ∧ Rep base w' mb L gs v ∧ Moves (foot mb gs v) (foot mb gs v) W w') := ⟨fun W r => by
            have := write_any r x.name x.n x.d HD.out
            have e : writeL L x.name x.n x.d = L := by unfold writeL; rw [if_neg he]
            rwa [e] at this⟩
          have e0 : (atRes L x.name x.n == 0) = false := by simp [he]
          clear he
          generalize atRes L x.name x.n = er at *
          generalize atFst L x.name x.n = ef at *
          have cb0 := Aside0.mk (CB.out w5 XG.out)
          have c0 := ck.out
          have c1 := cb0.out.2.1
          have c2 := cb0.out.2.2.1
          clear cb0 ck
          generalize x.k = xk at c0 k0 k1 k2
          go_wp2_with fail
          refine AQ.out.mono ?_
          rintro e w63 ⟨rfl, hb⟩
          replace R := Aside0.mk (R.out.below hb)
          replace Q := Aside0.mk (Q.out.below hb)
          replace BL : Aside0 (Below base w w63) := ⟨below_on HB.out BL.out hb⟩
          replace XG := Aside0.mk (blk_below XG.out hb)
          have cb := Aside0.mk (CB.out _ XG.out)
          clear hb AQ c0 c1 c2
          have c1 := cb.out.2.1
          have c2 := cb.out.2.2.1
          have RD := Aside0.mk cb.out.2.2.2
          clear cb
          go_wp2_with (first | (refine wpList_load_mid rfl 32 _ rfl gx 3 rfl (x.d.map (Value.int .u8)) _ RD.out Tryd.underlying32 rfl (by rw [DL.out]; kernel_rfl) ?_))
          refine (WR.out _ R.out).mono ?_
          rintro e w64 ⟨rfl, R1, M1⟩
          replace XG := Aside0.mk (moves_not M1 XG.out NX.out).2
          have QW := Q
          replace Q := Aside0.mk (quiet_q Q.out M1 D.out)
          replace D := Aside0.mk (D.out.left M1 (fun j hj => repq_foot_lt QW.out j hj))
          replace BL : Aside0 (Below base w w64) := ⟨BL.out.trans (below_of_moves R.out M1)⟩
          replace R := Aside0.mk R1
          clear QW
          clear R1 M1 WR c1 c2 RD
          go_wp2_with fail
          refine (names_any R.out).mono ?_
          rintro e w65 ⟨u1, rfl, own1, hb⟩
          have T1 := Aside0.mk (names_trow own1)
          replace R := Aside0.mk (R.out.below hb)
          replace Q := Aside0.mk (Q.out.below hb)
          replace BL : Aside0 (Below base w w65) := ⟨below_on HB.out BL.out hb⟩
          clear own1 hb
          go_wp2_with fail
          refine (names_q Q.out).mono ?_
          rintro e w66 ⟨u2, rfl, own2, hb⟩
          have T2 := Aside0.mk (names_trow own2)
          replace T1 := Aside0.mk (trow_below T1.out hb)
          replace R := Aside0.mk (R.out.below hb)
          replace Q := Aside0.mk (Q.out.below hb)
          replace BL : Aside0 (Below base w w66) := ⟨below_on HB.out BL.out hb⟩
          clear own2 hb
          go_wp2_with fail
          refine (tx2 T1.out T2.out).mono ?_
          rintro e w67 ⟨rfl, hb⟩
          replace R := Aside0.mk (R.out.below hb)
          replace Q := Aside0.mk (Q.out.below hb)
          replace BL : Aside0 (Below base w w67) := ⟨below_on HB.out BL.out hb⟩
          clear hb T1 T2
          go_wp2_with fail
          refine (free_any R.out).mono ?_
          rintro e w68 ⟨rfl, hb⟩
          replace R := Aside0.mk (R.out.below hb)
          replace Q := Aside0.mk (Q.out.below hb)
          replace BL : Aside0 (Below base w w68) := ⟨below_on HB.out BL.out hb⟩
          clear hb
          go_wp2_with fail
          refine (free_q Q.out).mono ?_
          rintro e w69 ⟨rfl, hb⟩
          replace R := Aside0.mk (R.out.below hb)
          replace Q := Aside0.mk (Q.out.below hb)
          replace BL : Aside0 (Below base w w69) := ⟨below_on HB.out BL.out hb⟩
          clear hb
          go_wp2_with fail
          go_roundw
          case measure => simp [intOf]; omega
          case rel => exact ⟨i + 1, L, gs, v, gq, vq, by omega, by go_num, R, Q, D, BL⟩
      by_cases hk3 : x.k = 3
      · have k0 : (x.k == 0) = false := by simp [hk0]
        have k1 : (x.k == 1) = false := by simp [hk1]
        have k2 : (x.k == 2) = false := by simp [hk2]
        have k3 : (x.k == 3) = true := by simp [hk3]
        clear hk0 hk1 hk2 hk3
        by_cases he : atRes L x.name x.n = 0
        · have AQ := Aside0.mk (at_q Q.out x.name x.n)
          obtain ⟨i0, k0n, ga2, cap2, g2, hi0, hxn, hil, hlc, hkb, hb4, hLx, hgx2, hvq, hqc, hqv, h32, hblk⟩ := q_block Q.out he
          have XN := Aside0.mk hxn
          have AF : Aside0 (atFst L x.name x.n = i0) := ⟨by unfold atFst; rw [if_pos he, hi0]⟩
          have WL : Aside0 (writeL L x.name x.n x.d = setBlk L i0 k0n (volOf L x.name) x.d) := ⟨by unfold writeL; rw [if_pos he, hi0, hxn, Int.toNat_natCast, Int.toNat_natCast]⟩
          have RV : Aside0 (readVal L x.name x.n = (volOf L x.name).blocks.getD k0n zero32) := ⟨by unfold readVal; rw [if_pos he, hxn, Int.toNat_natCast]⟩
          have GM : Aside0 (g2 ∈ foot qb gq vq) := ⟨by have := List.mem_of_getElem? hgx2; simp [foot, this]⟩
          have QV : Aside0 (vq.ownBlock = some ga2) := ⟨by rw [hvq]; rfl⟩
          have SHP : Aside0 (∀ W, RepQ base W qb L gq vq → W.cell? ⟨qb, 0, none⟩ = some (.slice (some ⟨ga2, 0, none⟩) L.length cap2) ∧ W.cell? ⟨ga2, i0 * 2 + 1, none⟩ = some (.slice (some ⟨g2, 0, none⟩) (volOf L x.name).blocks.length (volOf L x.name).blocks.length) ∧ W.heap[g2]? = some (.cells (blkCells (volOf L x.name).blocks).toArray 32 (0, 0))) := ⟨fun W q => by
            obtain ⟨i0', k0', ga2', cap2', g2', a1, a2, a3, a4, a5, a6, a7, a8, a9, a10, a11, a12, a13⟩ := q_block q he
            have e1 : i0' = i0 := by omega
            subst e1
            rw [hvq] at a9
            injection a9 with a9 _ a9c
            injection a9 with a9
            injection a9 with a9 _ _
            subst a9 a9c
            rw [hgx2] at a8
            injection a8 with a8
            subst a8
            exact ⟨a10, a11, a13⟩⟩
          have H32 := Aside0.mk h32
          have HLX := Aside0.mk hLx
          have HGX := Aside0.mk hgx2
          have b0 : (0 : Int) ≤ (i0 : Int) := by omega
          have b1 : (i0 : Int) < (L.length : Int) := by omega
          have b2 : (0 : Int) ≤ (k0n : Int) := by omega
          have b3 : (k0n : Int) < ((volOf L x.name).blocks.length : Int) := by omega
          have hL3 := Q.out.few
          clear hi0 hxn hLx hgx2 hvq hqc hqv h32 hblk
          obtain ⟨lenq, LQ⟩ : ∃ n, Aside0 (L.length = n) := ⟨_, ⟨rfl⟩⟩
          obtain ⟨lenb, LB⟩ : ∃ n, Aside0 ((volOf L x.name).blocks.length = n) := ⟨_, ⟨rfl⟩⟩
          rw [LQ.out] at b1 hL3 hil hlc
          rw [LB.out] at b3 hkb hb4
          obtain ⟨y, YD, YK⟩ : ∃ y, Aside0 (readVal L x.name x.n = y) ∧ Aside0 ((volOf L x.name).blocks[k0n]? = some y) := ⟨_, ⟨rfl⟩, ⟨by
            rw [RV.out]
            have : k0n < (volOf L x.name).blocks.length := by rw [LB.out]; omega
            simp [this]⟩⟩
          have HY : Aside0 (y.length = 32) := ⟨H32.out y (List.mem_of_getElem? YK.out)⟩
          have EY : ∀ w, (Op.equalIn 10000 32 (.agg (blkArr y)) (.agg (y.map (Value.int .u8)).toArray)).run Tryd.prog w = .ok true w := fun w => by
            have := eq32 y y HY.out HY.out w
            simpa [blkArr] using this
          have RQ : Aside0 (∀ W, Rep base W mb L gs v → Calls Tryd.prog 16 #[.pointer (some ⟨mb, 0, none⟩), .string x.name, .int .i64 x.n] W fun e w' => e = .returned (.tuple #[.agg (blkArr y), .int .i64 0]) ∧ Below W.heap.size W w') := ⟨fun W r => by have := read_any r x.name x.n; rwa [he, YD.out] at this⟩
          rw [AF.out, he] at AQ
          clear he
          have cb0 := Aside0.mk (CB.out w5 XG.out)
          have c0 := ck.out
          have c1 := cb0.out.2.1
          have c2 := cb0.out.2.2.1
          clear cb0 ck
          generalize x.k = xk at c0 k0 k1 k2 k3
          go_wp2_with fail
          refine AQ.out.mono ?_
          rintro e w70 ⟨rfl, hb⟩
          replace R := Aside0.mk (R.out.below hb)
          replace Q := Aside0.mk (Q.out.below hb)
          replace BL : Aside0 (Below base w w70) := ⟨below_on HB.out BL.out hb⟩
          replace XG := Aside0.mk (blk_below XG.out hb)
          have cb := Aside0.mk (CB.out _ XG.out)
          clear hb AQ c0 c1 c2
          have c1 := cb.out.2.1
          have c2 := cb.out.2.2.1
          have RD := Aside0.mk cb.out.2.2.2
          clear cb
          go_wp2_with fail
          refine (RQ.out _ R.out).mono ?_
          rintro e w71 ⟨rfl, hb⟩
          replace R := Aside0.mk (R.out.below hb)
          replace Q := Aside0.mk (Q.out.below hb)
          replace BL : Aside0 (Below base w w71) := ⟨below_on HB.out BL.out hb⟩
          replace XG := Aside0.mk (blk_below XG.out hb)
          clear hb RQ c1 c2 RD
          have B6 := Aside0.mk (blk_new w71 (.cells (fillN 0 0) 32 (0, 0)))
          go_wp2_with (first | (refine wpList_store_row rfl 32 _ _ rfl w71.heap.size (blkArr y) rfl rfl 32 _ (zeros32 ▸ B6.out) (by rw [blkArr_size, HY.out]; kernel_rfl) (by rw [blkArr_size, HY.out]; rfl) (blkArr_one y) (stop ?_)))
          unfold Stop
          rw [← zeros32]
          have XB := Aside0.mk (setRow_heap _ w71.heap.size (fillN 0 0) (blkArr y) 32 (0, 0) B6.out)
          have hb : Below w71.heap.size w71 ((w71.alloc (.cells (fillN 0 0) 32 (0, 0))).setRow w71.heap.size (blkArr y)) := below_setRow (below_alloc (Below.refl _ _) (.cells (fillN 0 0) 32 (0, 0))) (Nat.le_refl _) (blkArr y)
          replace R := Aside0.mk (R.out.below hb)
          replace Q := Aside0.mk (Q.out.below hb)
          replace BL : Aside0 (Below base w ((w71.alloc (.cells (fillN 0 0) 32 (0, 0))).setRow w71.heap.size (blkArr y))) := ⟨below_on HB.out BL.out hb⟩
          replace XG := Aside0.mk (blk_below XG.out hb)
          clear hb B6
          generalize (w71.alloc (.cells (fillN 0 0) 32 (0, 0))).setRow w71.heap.size (blkArr y) = w72 at *
          generalize w71.heap.size = gb at *
          go_wp2_with fail
          refine start_ (n := 32) (S := fun w' => w'.heap[gb]? = some (.cells (blkArr y) 32 (0, 0)) ∧ w'.cell? ⟨qb, 0, none⟩ = some (.slice (some ⟨ga2, 0, none⟩) lenq cap2) ∧ w'.cell? ⟨ga2, i0 * 2 + 1, none⟩ = some (.slice (some ⟨g2, 0, none⟩) lenb lenb) ∧ w'.heap[gx]? = some (.cells x.cells.toArray 34 (0, 0)) ∧ w'.rangeAt g2 (k0n * 32) (y.map (Value.int .u8))) (ds := []) #[false, false, false, false, false, false, false, false, false, false, false, false, false, false, false, false, false, false, false, false, false, false, false, false, false, false, false, false, false, false, false, false] (by kernel_rfl) rfl rfl ⟨XB.out, (LQ.out ▸ (SHP.out _ Q.out).1), (LB.out ▸ (SHP.out _ Q.out).2.1), XG.out, (blk_range_t (SHP.out _ Q.out).2.2 H32.out YK.out)⟩ (fun hHeld => ?_)
          replace R := Aside0.mk (R.out.below (below_drew1 (Below.refl w72.heap.size w72)))
          replace Q := Aside0.mk (Q.out.below (below_drew1 (Below.refl w72.heap.size w72)))
          replace BL := Aside0.mk (below_on HB.out BL.out (below_drew1 (Below.refl w72.heap.size w72)))
          clear XG XB
          generalize w72.drew = wd2 at R Q BL hHeld ⊢
          refine pure_ (i := 0) (N := (some 116)) (v := ?_) (a' := ?_) #[true, false, false, false, false, false, false, false, false, false, false, false, false, false, false, false, false, false, false, false, false, false, false, false, false, false, false, false, false, false, false, false] rfl rfl (by kernel_rfl) (fun _ _ _ h => h) (Or.inl ⟨by rfl, ?_⟩) ?_ ?_
          rotate_left
          · intro w'
            go_simp
            with_reducible rfl
          rotate_left
          · simp only [Act.put, List.setIfInBounds_toArray, List.set_cons_zero, List.set_cons_succ, i64_w, i32_w]
            rfl
          refine pure_ (i := 1) (N := (some 117)) (v := ?_) (a' := ?_) #[true, true, false, false, false, false, false, false, false, false, false, false, false, false, false, false, false, false, false, false, false, false, false, false, false, false, false, false, false, false, false, false] rfl rfl (by kernel_rfl) (fun _ _ _ h => h) (Or.inl ⟨by rfl, ?_⟩) ?_ ?_
          rotate_left
          · intro w'
            go_simp
            with_reducible rfl
          rotate_left
          · simp only [Act.put, List.setIfInBounds_toArray, List.set_cons_zero, List.set_cons_succ, i64_w, i32_w]
            rfl
          refine pure_ (i := 2) (N := (some 118)) (v := ?_) (a' := ?_) #[true, true, true, false, false, false, false, false, false, false, false, false, false, false, false, false, false, false, false, false, false, false, false, false, false, false, false, false, false, false, false, false] rfl rfl (by kernel_rfl) (fun _ _ _ h => h) (Or.inl ⟨by rfl, ?_⟩) ?_ ?_
          rotate_left
          · intro w'
            go_simp
            with_reducible rfl
          rotate_left
          · simp only [Act.put, List.setIfInBounds_toArray, List.set_cons_zero, List.set_cons_succ, i64_w, i32_w]
            rfl
          refine pure_ (i := 3) (N := (some 119)) (v := ?_) (a' := ?_) #[true, true, true, true, false, false, false, false, false, false, false, false, false, false, false, false, false, false, false, false, false, false, false, false, false, false, false, false, false, false, false, false] rfl rfl (by kernel_rfl) (fun _ _ _ h => h) (Or.inl ⟨by rfl, ?_⟩) ?_ ?_
          rotate_left
          · intro w'
            go_simp
            with_reducible rfl
          rotate_left
          · simp only [Act.put, List.setIfInBounds_toArray, List.set_cons_zero, List.set_cons_succ, i64_w, i32_w]
            rfl
          refine pure_ (i := 4) (N := (some 120)) (v := ?_) (a' := ?_) #[true, true, true, true, true, false, false, false, false, false, false, false, false, false, false, false, false, false, false, false, false, false, false, false, false, false, false, false, false, false, false, false] rfl rfl (by kernel_rfl) (fun _ _ _ h => h) (Or.inl ⟨by rfl, ?_⟩) ?_ ?_
          rotate_left
          · intro w'
            go_simp
            with_reducible rfl
          rotate_left
          · simp only [Act.put, List.setIfInBounds_toArray, List.set_cons_zero, List.set_cons_succ, i64_w, i32_w]
            rfl
          refine pure_ (i := 5) (N := (some 121)) (v := ?_) (a' := ?_) #[true, true, true, true, true, true, false, false, false, false, false, false, false, false, false, false, false, false, false, false, false, false, false, false, false, false, false, false, false, false, false, false] rfl rfl (by kernel_rfl) (fun _ _ _ h => h) (Or.inl ⟨by rfl, ?_⟩) ?_ ?_
          rotate_left
          · intro w'
            go_simp
            with_reducible rfl
          rotate_left
          · simp only [Act.put, List.setIfInBounds_toArray, List.set_cons_zero, List.set_cons_succ, i64_w, i32_w]
            rfl
          refine pure_ (i := 6) (N := (some 122)) (v := ?_) (a' := ?_) #[true, true, true, true, true, true, true, false, false, false, false, false, false, false, false, false, false, false, false, false, false, false, false, false, false, false, false, false, false, false, false, false] rfl rfl (by kernel_rfl) (fun _ _ _ h => h) (Or.inl ⟨by rfl, ?_⟩) ?_ ?_
          rotate_left
          · intro w'
            go_simp
            with_reducible rfl
          rotate_left
          · simp only [Act.put, List.setIfInBounds_toArray, List.set_cons_zero, List.set_cons_succ, i64_w, i32_w]
            rfl
          refine pure_ (i := 8) (N := (some 124)) (v := ?_) (a' := ?_) #[true, true, true, true, true, true, true, false, true, false, false, false, false, false, false, false, false, false, false, false, false, false, false, false, false, false, false, false, false, false, false, false] rfl rfl (by kernel_rfl) (fun _ _ _ h => h) (Or.inl ⟨by rfl, ?_⟩) ?_ ?_
          rotate_left
          · intro w'
            go_simp
            with_reducible rfl
          rotate_left
          · simp only [Act.put, List.setIfInBounds_toArray, List.set_cons_zero, List.set_cons_succ, i64_w, i32_w]
            rfl
          refine pure_ (i := 9) (N := (some 125)) (v := ?_) (a' := ?_) #[true, true, true, true, true, true, true, false, true, true, false, false, false, false, false, false, false, false, false, false, false, false, false, false, false, false, false, false, false, false, false, false] rfl rfl (by kernel_rfl) (fun _ _ _ h => h) (Or.inl ⟨by rfl, ?_⟩) ?_ ?_
          rotate_left
          · intro w'
            go_simp
            with_reducible rfl
          rotate_left
          · simp only [Act.put, List.setIfInBounds_toArray, List.set_cons_zero, List.set_cons_succ, i64_w, i32_w]
            rfl
          refine pure_ (i := 10) (N := (some 126)) (v := ?_) (a' := ?_) #[true, true, true, true, true, true, true, false, true, true, true, false, false, false, false, false, false, false, false, false, false, false, false, false, false, false, false, false, false, false, false, false] rfl rfl (by kernel_rfl) (fun _ _ _ h => h) (Or.inl ⟨by rfl, ?_⟩) ?_ ?_
          rotate_left
          · intro w'
            go_simp
            with_reducible rfl
          rotate_left
          · simp only [Act.put, List.setIfInBounds_toArray, List.set_cons_zero, List.set_cons_succ, i64_w, i32_w]
            rfl
          refine pure_ (i := 12) (N := (some 128)) (v := ?_) (a' := ?_) #[true, true, true, true, true, true, true, false, true, true, true, false, true, false, false, false, false, false, false, false, false, false, false, false, false, false, false, false, false, false, false, false] rfl rfl (by kernel_rfl) (fun _ _ _ h => h) (Or.inl ⟨by rfl, ?_⟩) ?_ ?_
          rotate_left
          · intro w'
            go_simp
            with_reducible rfl
          rotate_left
          · simp only [Act.put, List.setIfInBounds_toArray, List.set_cons_zero, List.set_cons_succ, i64_w, i32_w]
            rfl
          refine pure_ (i := 16) (N := (some 132)) (v := ?_) (a' := ?_) #[true, true, true, true, true, true, true, false, true, true, true, false, true, false, false, false, true, false, false, false, false, false, false, false, false, false, false, false, false, false, false, false] rfl rfl (by kernel_rfl) (fun _ _ _ h => h) (Or.inl ⟨by rfl, ?_⟩) ?_ ?_
          rotate_left
          · intro w'
            go_simp
            with_reducible rfl
          rotate_left
          · simp only [Act.put, List.setIfInBounds_toArray, List.set_cons_zero, List.set_cons_succ, i64_w, i32_w]
            rfl
          refine take_ (i := 7) (N := (some 123)) (v := ?_) (a' := ?_) #[true, true, true, true, true, true, true, true, true, true, true, false, true, false, false, false, true, false, false, false, false, false, false, false, false, false, false, false, false, false, false, false] rfl rfl (by kernel_rfl) (fun _ _ _ h => h) (Or.inl ⟨by rfl, ?_⟩) hHeld ?_ ?_
          rotate_left
          · rintro w' ⟨s0, s1, s2, s3, s4⟩
            refine (run_load_row (by rfl) (by rfl) s0 Tryd.underlying32 rfl (by rw [blkArr_size, HY.out]; kernel_rfl)).trans ?_
            with_reducible rfl
          rotate_left
          · simp only [Act.put, List.setIfInBounds_toArray, List.set_cons_zero, List.set_cons_succ, i64_w, i32_w]
            rfl
          refine take_ (i := 11) (N := (some 127)) (v := ?_) (a' := ?_) #[true, true, true, true, true, true, true, true, true, true, true, true, true, false, false, false, true, false, false, false, false, false, false, false, false, false, false, false, false, false, false, false] rfl rfl (by kernel_rfl) (fun _ _ _ h => h) (Or.inl ⟨by rfl, ?_⟩) hHeld ?_ ?_
          rotate_left
          · rintro w' ⟨s0, s1, s2, s3, s4⟩
            have c0 := CB.out w' s3
            have c2 : w'.cell? ⟨gx, 2, none⟩ = some (.int .i64 (k0n : Int)) := by rw [c0.2.2.1, XN.out]
            clear c0
            go_simp
            with_reducible rfl
          rotate_left
          · simp only [Act.put, List.setIfInBounds_toArray, List.set_cons_zero, List.set_cons_succ, i64_w, i32_w]
            rfl
          refine pure_ (i := 13) (N := (some 129)) (v := ?_) (a' := ?_) #[true, true, true, true, true, true, true, true, true, true, true, true, true, true, false, false, true, false, false, false, false, false, false, false, false, false, false, false, false, false, false, false] rfl rfl (by kernel_rfl) (fun _ _ _ h => h) (Or.inl ⟨by rfl, ?_⟩) ?_ ?_
          rotate_left
          · intro w'
            go_simp
            with_reducible rfl
          rotate_left
          · simp only [Act.put, List.setIfInBounds_toArray, List.set_cons_zero, List.set_cons_succ, i64_w, i32_w]
            rfl
          refine pure_ (i := 14) (N := (some 130)) (v := ?_) (a' := ?_) #[true, true, true, true, true, true, true, true, true, true, true, true, true, true, true, false, true, false, false, false, false, false, false, false, false, false, false, false, false, false, false, false] rfl rfl (by kernel_rfl) (fun _ _ _ h => h) (Or.inl ⟨by rfl, ?_⟩) ?_ ?_
          rotate_left
          · intro w'
            go_simp
            with_reducible rfl
          rotate_left
          · simp only [Act.put, List.setIfInBounds_toArray, List.set_cons_zero, List.set_cons_succ, i64_w, i32_w]
            rfl
          refine take_ (i := 15) (N := (some 131)) (v := ?_) (a' := ?_) #[true, true, true, true, true, true, true, true, true, true, true, true, true, true, true, true, true, false, false, false, false, false, false, false, false, false, false, false, false, false, false, false] rfl rfl (by kernel_rfl) (fun _ _ _ h => h) (Or.inl ⟨by rfl, ?_⟩) hHeld ?_ ?_
          rotate_left
          · rintro w' ⟨s0, s1, s2, s3, s4⟩
            have c0 := CB.out w' s3
            have c2 : w'.cell? ⟨gx, 2, none⟩ = some (.int .i64 (k0n : Int)) := by rw [c0.2.2.1, XN.out]
            clear c0
            go_simp
            with_reducible rfl
          rotate_left
          · simp only [Act.put, List.setIfInBounds_toArray, List.set_cons_zero, List.set_cons_succ, i64_w, i32_w]
            rfl
          refine take_ (i := 17) (N := (some 133)) (v := ?_) (a' := ?_) #[true, true, true, true, true, true, true, true, true, true, true, true, true, true, true, true, true, true, false, false, false, false, false, false, false, false, false, false, false, false, false, false] rfl rfl (by kernel_rfl) (fun _ _ _ h => h) (Or.inl ⟨by rfl, ?_⟩) hHeld ?_ ?_
          rotate_left
          · rintro w' ⟨s0, s1, s2, s3, s4⟩
            have c0 := CB.out w' s3
            have c2 : w'.cell? ⟨gx, 2, none⟩ = some (.int .i64 (k0n : Int)) := by rw [c0.2.2.1, XN.out]
            clear c0
            go_simp
            with_reducible rfl
          rotate_left
          · simp only [Act.put, List.setIfInBounds_toArray, List.set_cons_zero, List.set_cons_succ, i64_w, i32_w]
            rfl
          refine pure_ (i := 18) (N := (some 134)) (v := ?_) (a' := ?_) #[true, true, true, true, true, true, true, true, true, true, true, true, true, true, true, true, true, true, true, false, false, false, false, false, false, false, false, false, false, false, false, false] rfl rfl (by kernel_rfl) (fun _ _ _ h => h) (Or.inl ⟨by rfl, ?_⟩) ?_ ?_
          rotate_left
          · intro w'
            go_simp
            with_reducible rfl
          rotate_left
          · simp only [Act.put, List.setIfInBounds_toArray, List.set_cons_zero, List.set_cons_succ, i64_w, i32_w]
            rfl
          refine take_ (i := 19) (N := (some 135)) (v := ?_) (a' := ?_) #[true, true, true, true, true, true, true, true, true, true, true, true, true, true, true, true, true, true, true, true, false, false, false, false, false, false, false, false, false, false, false, false] rfl rfl (by kernel_rfl) (fun _ _ _ h => h) (Or.inl ⟨by rfl, ?_⟩) hHeld ?_ ?_
          rotate_left
          · rintro w' ⟨s0, s1, s2, s3, s4⟩
            refine (run_load_mid (by rfl) (by rfl) s4 Tryd.underlying32 rfl (by rw [List.length_map, HY.out]; kernel_rfl)).trans ?_
            with_reducible rfl
          rotate_left
          · simp only [Act.put, List.setIfInBounds_toArray, List.set_cons_zero, List.set_cons_succ, i64_w, i32_w]
            rfl
          refine pure_ (i := 20) (N := (some 136)) (v := ?_) (a' := ?_) #[true, true, true, true, true, true, true, true, true, true, true, true, true, true, true, true, true, true, true, true, true, false, false, false, false, false, false, false, false, false, false, false] rfl rfl (by kernel_rfl) (fun _ _ _ h => h) (Or.inl ⟨by rfl, ?_⟩) ?_ ?_
          rotate_left
          · intro w'
            go_simp
            with_reducible rfl
          rotate_left
          · simp only [Act.put, List.setIfInBounds_toArray, List.set_cons_zero, List.set_cons_succ, i64_w, i32_w]
            rfl
          refine pure_ (i := 21) (N := (some 137)) (v := ?_) (a' := ?_) #[true, true, true, true, true, true, true, true, true, true, true, true, true, true, true, true, true, true, true, true, true, true, false, false, false, false, false, false, false, false, false, false] rfl rfl (by kernel_rfl) (fun _ _ _ h => h) (Or.inl ⟨by rfl, ?_⟩) ?_ ?_
          rotate_left
          · intro w'
            go_simp
            with_reducible rfl
          rotate_left
          · simp only [Act.put, List.setIfInBounds_toArray, List.set_cons_zero, List.set_cons_succ, i64_w, i32_w]
            rfl
          refine pure_ (i := 22) (N := (some 138)) (v := ?_) (a' := ?_) #[true, true, true, true, true, true, true, true, true, true, true, true, true, true, true, true, true, true, true, true, true, true, true, false, false, false, false, false, false, false, false, false] rfl rfl (by kernel_rfl) (fun _ _ _ h => h) (Or.inl ⟨by rfl, ?_⟩) ?_ ?_
          rotate_left
          · intro w'
            go_simp
            with_reducible rfl
          rotate_left
          · simp only [Act.put, List.setIfInBounds_toArray, List.set_cons_zero, List.set_cons_succ, i64_w, i32_w]
            rfl
          refine pure_ (i := 23) (N := (some 139)) (v := ?_) (a' := ?_) #[true, true, true, true, true, true, true, true, true, true, true, true, true, true, true, true, true, true, true, true, true, true, true, true, false, false, false, false, false, false, false, false] rfl rfl (by kernel_rfl) (fun _ _ _ h => h) (Or.inl ⟨by rfl, ?_⟩) ?_ ?_
          rotate_left
          · intro w'
            go_simp
            with_reducible rfl
          rotate_left
          · simp only [Act.put, List.setIfInBounds_toArray, List.set_cons_zero, List.set_cons_succ, i64_w, i32_w]
            rfl
          refine pure_ (i := 24) (N := (some 140)) (v := ?_) (a' := ?_) #[true, true, true, true, true, true, true, true, true, true, true, true, true, true, true, true, true, true, true, true, true, true, true, true, true, false, false, false, false, false, false, false] rfl rfl (by kernel_rfl) (fun _ _ _ h => h) (Or.inl ⟨by rfl, ?_⟩) ?_ ?_
          rotate_left
          · intro w'
            go_simp
            with_reducible rfl
          rotate_left
          · simp only [Act.put, List.setIfInBounds_toArray, List.set_cons_zero, List.set_cons_succ, i64_w, i32_w]
            rfl
          refine pure_ (i := 25) (N := (some 141)) (v := ?_) (a' := ?_) #[true, true, true, true, true, true, true, true, true, true, true, true, true, true, true, true, true, true, true, true, true, true, true, true, true, true, false, false, false, false, false, false] rfl rfl (by kernel_rfl) (fun _ _ _ h => h) (Or.inl ⟨by rfl, ?_⟩) ?_ ?_
          rotate_left
          · intro w'
            go_simp
            with_reducible rfl
          rotate_left
          · simp only [Act.put, List.setIfInBounds_toArray, List.set_cons_zero, List.set_cons_succ, i64_w, i32_w]
            rfl
          refine pure_ (i := 26) (N := (some 142)) (v := ?_) (a' := ?_) #[true, true, true, true, true, true, true, true, true, true, true, true, true, true, true, true, true, true, true, true, true, true, true, true, true, true, true, false, false, false, false, false] rfl rfl (by kernel_rfl) (fun _ _ _ h => h) (Or.inl ⟨by rfl, ?_⟩) ?_ ?_
          rotate_left
          · intro w'
            go_simp
            with_reducible rfl
          rotate_left
          · simp only [Act.put, List.setIfInBounds_toArray, List.set_cons_zero, List.set_cons_succ, i64_w, i32_w]
            rfl
          refine pure_ (i := 27) (N := (some 143)) (v := undef) (a' := ?_) #[true, true, true, true, true, true, true, true, true, true, true, true, true, true, true, true, true, true, true, true, true, true, true, true, true, true, true, true, false, false, false, false] rfl rfl (by kernel_rfl) (fun _ _ _ h => h) (Or.inr ⟨by rfl, rfl⟩) ?_ ?_
          rotate_left
          · simp only [Act.put, List.setIfInBounds_toArray, List.set_cons_zero, List.set_cons_succ, i64_w, i32_w]
            rfl
          refine pure_ (i := 28) (N := (some 144)) (v := undef) (a' := ?_) #[true, true, true, true, true, true, true, true, true, true, true, true, true, true, true, true, true, true, true, true, true, true, true, true, true, true, true, true, true, false, false, false] rfl rfl (by kernel_rfl) (fun _ _ _ h => h) (Or.inr ⟨by rfl, rfl⟩) ?_ ?_
          rotate_left
          · simp only [Act.put, List.setIfInBounds_toArray, List.set_cons_zero, List.set_cons_succ, i64_w, i32_w]
            rfl
          refine pure_ (i := 29) (N := (some 145)) (v := undef) (a' := ?_) #[true, true, true, true, true, true, true, true, true, true, true, true, true, true, true, true, true, true, true, true, true, true, true, true, true, true, true, true, true, true, false, false] rfl rfl (by kernel_rfl) (fun _ _ _ h => h) (Or.inr ⟨by rfl, rfl⟩) ?_ ?_
          rotate_left
          · simp only [Act.put, List.setIfInBounds_toArray, List.set_cons_zero, List.set_cons_succ, i64_w, i32_w]
            rfl
          refine pure_ (i := 30) (N := (some 146)) (v := ?_) (a' := ?_) #[true, true, true, true, true, true, true, true, true, true, true, true, true, true, true, true, true, true, true, true, true, true, true, true, true, true, true, true, true, true, true, false] rfl rfl (by kernel_rfl) (fun _ _ _ h => h) (Or.inl ⟨by rfl, ?_⟩) ?_ ?_
          rotate_left
          · intro w'
            go_simp
            with_reducible rfl
          rotate_left
          · simp only [Act.put, List.setIfInBounds_toArray, List.set_cons_zero, List.set_cons_succ, i64_w, i32_w]
            rfl
          refine pure_ (i := 31) (N := (some 147)) (v := ?_) (a' := ?_) #[true, true, true, true, true, true, true, true, true, true, true, true, true, true, true, true, true, true, true, true, true, true, true, true, true, true, true, true, true, true, true, true] rfl rfl (by kernel_rfl) (fun _ _ _ h => h) (Or.inl ⟨by rfl, ?_⟩) ?_ ?_
          rotate_left
          · intro w'
            go_simp
            with_reducible rfl
          rotate_left
          · simp only [Act.put, List.setIfInBounds_toArray, List.set_cons_zero, List.set_cons_succ, i64_w, i32_w]
            rfl
          refine done_ (by kernel_rfl) ?_
          go_wp2_with fail
          refine (names_any R.out).mono ?_
          rintro e w73 ⟨u1, rfl, own1, hb⟩
          have T1 := Aside0.mk (names_trow own1)
          replace R := Aside0.mk (R.out.below hb)
          replace Q := Aside0.mk (Q.out.below hb)
          replace BL : Aside0 (Below base w w73) := ⟨below_on HB.out BL.out hb⟩
          clear own1 hb
          go_wp2_with fail
          refine (names_q Q.out).mono ?_
          rintro e w74 ⟨u2, rfl, own2, hb⟩
          have T2 := Aside0.mk (names_trow own2)
          replace T1 := Aside0.mk (trow_below T1.out hb)
          replace R := Aside0.mk (R.out.below hb)
          replace Q := Aside0.mk (Q.out.below hb)
          replace BL : Aside0 (Below base w w74) := ⟨below_on HB.out BL.out hb⟩
          clear own2 hb
          go_wp2_with fail
          refine (tx2 T1.out T2.out).mono ?_
          rintro e w75 ⟨rfl, hb⟩
          replace R := Aside0.mk (R.out.below hb)
          replace Q := Aside0.mk (Q.out.below hb)
          replace BL : Aside0 (Below base w w75) := ⟨below_on HB.out BL.out hb⟩
          clear hb T1 T2
          go_wp2_with fail
          refine (free_any R.out).mono ?_
          rintro e w76 ⟨rfl, hb⟩
          replace R := Aside0.mk (R.out.below hb)
          replace Q := Aside0.mk (Q.out.below hb)
          replace BL : Aside0 (Below base w w76) := ⟨below_on HB.out BL.out hb⟩
          clear hb
          go_wp2_with fail
          refine (free_q Q.out).mono ?_
          rintro e w77 ⟨rfl, hb⟩
          replace R := Aside0.mk (R.out.below hb)
          replace Q := Aside0.mk (Q.out.below hb)
          replace BL : Aside0 (Below base w w77) := ⟨below_on HB.out BL.out hb⟩
          clear hb
          go_wp2_with fail
          go_roundw
          case measure => simp [intOf]; omega
          case rel => exact ⟨i + 1, L, gs, v, gq, vq, by omega, by go_num, R, Q, D, BL⟩
        · have AQ := Aside0.mk (at_q Q.out x.name x.n)
          have HY : Aside0 (zero32.length = 32) := ⟨rfl⟩
          have E0 := eq_zero
          have RQ : Aside0 (∀ W, Rep base W mb L gs v → Calls Tryd.prog 16 #[.pointer (some ⟨mb, 0, none⟩), .string x.name, .int .i64 x.n] W fun e w' => e = .returned (.tuple #[.agg (blkArr zero32), .int .i64 (atRes L x.name x.n)]) ∧ Below W.heap.size W w') := ⟨fun W r => by
            have := read_any r x.name x.n
            have e : readVal L x.name x.n = zero32 := by unfold readVal; rw [if_neg he]
            rwa [e] at this⟩
          have e0 : (atRes L x.name x.n == 0) = false := by simp [he]
          have e1 : (atRes L x.name x.n != 0) = true := by simp [he]
          clear he
          generalize atRes L x.name x.n = er at *
          generalize atFst L x.name x.n = ef at *
          have cb0 := Aside0.mk (CB.out w5 XG.out)
          have c0 := ck.out
          have c1 := cb0.out.2.1
          have c2 := cb0.out.2.2.1
          clear cb0 ck
          generalize x.k = xk at c0 k0 k1 k2 k3
          go_wp2_with fail
          refine AQ.out.mono ?_
          rintro e w78 ⟨rfl, hb⟩
          replace R := Aside0.mk (R.out.below hb)
          replace Q := Aside0.mk (Q.out.below hb)
          replace BL : Aside0 (Below base w w78) := ⟨below_on HB.out BL.out hb⟩
          replace XG := Aside0.mk (blk_below XG.out hb)
          have cb := Aside0.mk (CB.out _ XG.out)
          clear hb AQ c0 c1 c2
          have c1 := cb.out.2.1
          have c2 := cb.out.2.2.1
          have RD := Aside0.mk cb.out.2.2.2
          clear cb
          go_wp2_with fail
          refine (RQ.out _ R.out).mono ?_
          rintro e w79 ⟨rfl, hb⟩
          replace R := Aside0.mk (R.out.below hb)
          replace Q := Aside0.mk (Q.out.below hb)
          replace BL : Aside0 (Below base w w79) := ⟨below_on HB.out BL.out hb⟩
          replace XG := Aside0.mk (blk_below XG.out hb)
          clear hb RQ c1 c2 RD
          have B6 := Aside0.mk (blk_new w79 (.cells (fillN 0 0) 32 (0, 0)))
          go_wp2_with (first | (refine wpList_store_row rfl 32 _ _ rfl w79.heap.size (blkArr zero32) rfl rfl 32 _ (zeros32 ▸ B6.out) (by rw [blkArr_size, HY.out]; kernel_rfl) (by rw [blkArr_size, HY.out]; rfl) (blkArr_one zero32) (stop ?_)))
          unfold Stop
          rw [← zeros32]
          have XB := Aside0.mk (setRow_heap _ w79.heap.size (fillN 0 0) (blkArr zero32) 32 (0, 0) B6.out)
          have hb : Below w79.heap.size w79 ((w79.alloc (.cells (fillN 0 0) 32 (0, 0))).setRow w79.heap.size (blkArr zero32)) := below_setRow (below_alloc (Below.refl _ _) (.cells (fillN 0 0) 32 (0, 0))) (Nat.le_refl _) (blkArr zero32)
          replace R := Aside0.mk (R.out.below hb)
          replace Q := Aside0.mk (Q.out.below hb)
          replace BL : Aside0 (Below base w ((w79.alloc (.cells (fillN 0 0) 32 (0, 0))).setRow w79.heap.size (blkArr zero32))) := ⟨below_on HB.out BL.out hb⟩
          replace XG := Aside0.mk (blk_below XG.out hb)
          clear hb B6
          generalize (w79.alloc (.cells (fillN 0 0) 32 (0, 0))).setRow w79.heap.size (blkArr zero32) = w80 at *
          generalize w79.heap.size = gb at *
          go_wp2_with fail
          refine start_ (n := 32) (S := fun w' => w'.heap[gb]? = some (.cells (blkArr zero32) 32 (0, 0))) (ds := []) #[false, false, false, false, false, false, false, false, false, false, false, false, false, false, false, false, false, false, false, false, false, false, false, false, false, false, false, false, false, false, false, false] (by kernel_rfl) rfl rfl (XB.out) (fun hHeld => ?_)
          replace R := Aside0.mk (R.out.below (below_drew1 (Below.refl w80.heap.size w80)))
          replace Q := Aside0.mk (Q.out.below (below_drew1 (Below.refl w80.heap.size w80)))
          replace BL := Aside0.mk (below_on HB.out BL.out (below_drew1 (Below.refl w80.heap.size w80)))
          clear XG XB
          generalize w80.drew = wd2 at R Q BL hHeld ⊢
          refine pure_ (i := 0) (N := (some 116)) (v := ?_) (a' := ?_) #[true, false, false, false, false, false, false, false, false, false, false, false, false, false, false, false, false, false, false, false, false, false, false, false, false, false, false, false, false, false, false, false] rfl rfl (by kernel_rfl) (fun _ _ _ h => h) (Or.inl ⟨by rfl, ?_⟩) ?_ ?_
          rotate_left
          · intro w'
            go_simp
            with_reducible rfl
          rotate_left
          · simp only [Act.put, List.setIfInBounds_toArray, List.set_cons_zero, List.set_cons_succ, i64_w, i32_w]
            rfl
          refine pure_ (i := 1) (N := (some 117)) (v := ?_) (a' := ?_) #[true, true, false, false, false, false, false, false, false, false, false, false, false, false, false, false, false, false, false, false, false, false, false, false, false, false, false, false, false, false, false, false] rfl rfl (by kernel_rfl) (fun _ _ _ h => h) (Or.inl ⟨by rfl, ?_⟩) ?_ ?_
          rotate_left
          · intro w'
            go_simp
            with_reducible rfl
          rotate_left
          · simp only [Act.put, List.setIfInBounds_toArray, List.set_cons_zero, List.set_cons_succ, i64_w, i32_w]
            rfl
          refine pure_ (i := 2) (N := (some 118)) (v := ?_) (a' := ?_) #[true, true, true, false, false, false, false, false, false, false, false, false, false, false, false, false, false, false, false, false, false, false, false, false, false, false, false, false, false, false, false, false] rfl rfl (by kernel_rfl) (fun _ _ _ h => h) (Or.inl ⟨by rfl, ?_⟩) ?_ ?_
          rotate_left
          · intro w'
            go_simp
            with_reducible rfl
          rotate_left
          · simp only [Act.put, List.setIfInBounds_toArray, List.set_cons_zero, List.set_cons_succ, i64_w, i32_w]
            rfl
          refine pure_ (i := 3) (N := (some 119)) (v := ?_) (a' := ?_) #[true, true, true, true, false, false, false, false, false, false, false, false, false, false, false, false, false, false, false, false, false, false, false, false, false, false, false, false, false, false, false, false] rfl rfl (by kernel_rfl) (fun _ _ _ h => h) (Or.inl ⟨by rfl, ?_⟩) ?_ ?_
          rotate_left
          · intro w'
            go_simp
            with_reducible rfl
          rotate_left
          · simp only [Act.put, List.setIfInBounds_toArray, List.set_cons_zero, List.set_cons_succ, i64_w, i32_w]
            rfl
          refine pure_ (i := 4) (N := (some 120)) (v := ?_) (a' := ?_) #[true, true, true, true, true, false, false, false, false, false, false, false, false, false, false, false, false, false, false, false, false, false, false, false, false, false, false, false, false, false, false, false] rfl rfl (by kernel_rfl) (fun _ _ _ h => h) (Or.inl ⟨by rfl, ?_⟩) ?_ ?_
          rotate_left
          · intro w'
            go_simp
            with_reducible rfl
          rotate_left
          · simp only [Act.put, List.setIfInBounds_toArray, List.set_cons_zero, List.set_cons_succ, i64_w, i32_w]
            rfl
          refine pure_ (i := 5) (N := (some 121)) (v := ?_) (a' := ?_) #[true, true, true, true, true, true, false, false, false, false, false, false, false, false, false, false, false, false, false, false, false, false, false, false, false, false, false, false, false, false, false, false] rfl rfl (by kernel_rfl) (fun _ _ _ h => h) (Or.inl ⟨by rfl, ?_⟩) ?_ ?_
          rotate_left
          · intro w'
            go_simp
            with_reducible rfl
          rotate_left
          · simp only [Act.put, List.setIfInBounds_toArray, List.set_cons_zero, List.set_cons_succ, i64_w, i32_w]
            rfl
          refine pure_ (i := 6) (N := (some 122)) (v := ?_) (a' := ?_) #[true, true, true, true, true, true, true, false, false, false, false, false, false, false, false, false, false, false, false, false, false, false, false, false, false, false, false, false, false, false, false, false] rfl rfl (by kernel_rfl) (fun _ _ _ h => h) (Or.inl ⟨by rfl, ?_⟩) ?_ ?_
          rotate_left
          · intro w'
            go_simp
            with_reducible rfl
          rotate_left
          · simp only [Act.put, List.setIfInBounds_toArray, List.set_cons_zero, List.set_cons_succ, i64_w, i32_w]
            rfl
          refine pure_ (i := 7) (N := (some 123)) (v := undef) (a' := ?_) #[true, true, true, true, true, true, true, true, false, false, false, false, false, false, false, false, false, false, false, false, false, false, false, false, false, false, false, false, false, false, false, false] rfl rfl (by kernel_rfl) (fun _ _ _ h => h) (Or.inr ⟨by rfl, rfl⟩) ?_ ?_
          rotate_left
          · simp only [Act.put, List.setIfInBounds_toArray, List.set_cons_zero, List.set_cons_succ, i64_w, i32_w]
            rfl
          refine pure_ (i := 8) (N := (some 124)) (v := undef) (a' := ?_) #[true, true, true, true, true, true, true, true, true, false, false, false, false, false, false, false, false, false, false, false, false, false, false, false, false, false, false, false, false, false, false, false] rfl rfl (by kernel_rfl) (fun _ _ _ h => h) (Or.inr ⟨by rfl, rfl⟩) ?_ ?_
          rotate_left
          · simp only [Act.put, List.setIfInBounds_toArray, List.set_cons_zero, List.set_cons_succ, i64_w, i32_w]
            rfl
          refine pure_ (i := 9) (N := (some 125)) (v := undef) (a' := ?_) #[true, true, true, true, true, true, true, true, true, true, false, false, false, false, false, false, false, false, false, false, false, false, false, false, false, false, false, false, false, false, false, false] rfl rfl (by kernel_rfl) (fun _ _ _ h => h) (Or.inr ⟨by rfl, rfl⟩) ?_ ?_
          rotate_left
          · simp only [Act.put, List.setIfInBounds_toArray, List.set_cons_zero, List.set_cons_succ, i64_w, i32_w]
            rfl
          refine pure_ (i := 10) (N := (some 126)) (v := undef) (a' := ?_) #[true, true, true, true, true, true, true, true, true, true, true, false, false, false, false, false, false, false, false, false, false, false, false, false, false, false, false, false, false, false, false, false] rfl rfl (by kernel_rfl) (fun _ _ _ h => h) (Or.inr ⟨by rfl, rfl⟩) ?_ ?_
          rotate_left
          · simp only [Act.put, List.setIfInBounds_toArray, List.set_cons_zero, List.set_cons_succ, i64_w, i32_w]
            rfl
          refine pure_ (i := 11) (N := (some 127)) (v := undef) (a' := ?_) #[true, true, true, true, true, true, true, true, true, true, true, true, false, false, false, false, false, false, false, false, false, false, false, false, false, false, false, false, false, false, false, false] rfl rfl (by kernel_rfl) (fun _ _ _ h => h) (Or.inr ⟨by rfl, rfl⟩) ?_ ?_
          rotate_left
          · simp only [Act.put, List.setIfInBounds_toArray, List.set_cons_zero, List.set_cons_succ, i64_w, i32_w]
            rfl
          refine pure_ (i := 12) (N := (some 128)) (v := undef) (a' := ?_) #[true, true, true, true, true, true, true, true, true, true, true, true, true, false, false, false, false, false, false, false, false, false, false, false, false, false, false, false, false, false, false, false] rfl rfl (by kernel_rfl) (fun _ _ _ h => h) (Or.inr ⟨by rfl, rfl⟩) ?_ ?_
          rotate_left
          · simp only [Act.put, List.setIfInBounds_toArray, List.set_cons_zero, List.set_cons_succ, i64_w, i32_w]
            rfl
          refine pure_ (i := 13) (N := (some 129)) (v := undef) (a' := ?_) #[true, true, true, true, true, true, true, true, true, true, true, true, true, true, false, false, false, false, false, false, false, false, false, false, false, false, false, false, false, false, false, false] rfl rfl (by kernel_rfl) (fun _ _ _ h => h) (Or.inr ⟨by rfl, rfl⟩) ?_ ?_
          rotate_left
          · simp only [Act.put, List.setIfInBounds_toArray, List.set_cons_zero, List.set_cons_succ, i64_w, i32_w]
            rfl
          refine pure_ (i := 14) (N := (some 130)) (v := undef) (a' := ?_) #[true, true, true, true, true, true, true, true, true, true, true, true, true, true, true, false, false, false, false, false, false, false, false, false, false, false, false, false, false, false, false, false] rfl rfl (by kernel_rfl) (fun _ _ _ h => h) (Or.inr ⟨by rfl, rfl⟩) ?_ ?_
          rotate_left
          · simp only [Act.put, List.setIfInBounds_toArray, List.set_cons_zero, List.set_cons_succ, i64_w, i32_w]
            rfl
          refine pure_ (i := 15) (N := (some 131)) (v := undef) (a' := ?_) #[true, true, true, true, true, true, true, true, true, true, true, true, true, true, true, true, false, false, false, false, false, false, false, false, false, false, false, false, false, false, false, false] rfl rfl (by kernel_rfl) (fun _ _ _ h => h) (Or.inr ⟨by rfl, rfl⟩) ?_ ?_
          rotate_left
          · simp only [Act.put, List.setIfInBounds_toArray, List.set_cons_zero, List.set_cons_succ, i64_w, i32_w]
            rfl
          refine pure_ (i := 16) (N := (some 132)) (v := undef) (a' := ?_) #[true, true, true, true, true, true, true, true, true, true, true, true, true, true, true, true, true, false, false, false, false, false, false, false, false, false, false, false, false, false, false, false] rfl rfl (by kernel_rfl) (fun _ _ _ h => h) (Or.inr ⟨by rfl, rfl⟩) ?_ ?_
          rotate_left
          · simp only [Act.put, List.setIfInBounds_toArray, List.set_cons_zero, List.set_cons_succ, i64_w, i32_w]
            rfl
          refine pure_ (i := 17) (N := (some 133)) (v := undef) (a' := ?_) #[true, true, true, true, true, true, true, true, true, true, true, true, true, true, true, true, true, true, false, false, false, false, false, false, false, false, false, false, false, false, false, false] rfl rfl (by kernel_rfl) (fun _ _ _ h => h) (Or.inr ⟨by rfl, rfl⟩) ?_ ?_
          rotate_left
          · simp only [Act.put, List.setIfInBounds_toArray, List.set_cons_zero, List.set_cons_succ, i64_w, i32_w]
            rfl
          refine pure_ (i := 18) (N := (some 134)) (v := undef) (a' := ?_) #[true, true, true, true, true, true, true, true, true, true, true, true, true, true, true, true, true, true, true, false, false, false, false, false, false, false, false, false, false, false, false, false] rfl rfl (by kernel_rfl) (fun _ _ _ h => h) (Or.inr ⟨by rfl, rfl⟩) ?_ ?_
          rotate_left
          · simp only [Act.put, List.setIfInBounds_toArray, List.set_cons_zero, List.set_cons_succ, i64_w, i32_w]
            rfl
          refine pure_ (i := 19) (N := (some 135)) (v := undef) (a' := ?_) #[true, true, true, true, true, true, true, true, true, true, true, true, true, true, true, true, true, true, true, true, false, false, false, false, false, false, false, false, false, false, false, false] rfl rfl (by kernel_rfl) (fun _ _ _ h => h) (Or.inr ⟨by rfl, rfl⟩) ?_ ?_
          rotate_left
          · simp only [Act.put, List.setIfInBounds_toArray, List.set_cons_zero, List.set_cons_succ, i64_w, i32_w]
            rfl
          refine pure_ (i := 20) (N := (some 136)) (v := undef) (a' := ?_) #[true, true, true, true, true, true, true, true, true, true, true, true, true, true, true, true, true, true, true, true, true, false, false, false, false, false, false, false, false, false, false, false] rfl rfl (by kernel_rfl) (fun _ _ _ h => h) (Or.inr ⟨by rfl, rfl⟩) ?_ ?_
          rotate_left
          · simp only [Act.put, List.setIfInBounds_toArray, List.set_cons_zero, List.set_cons_succ, i64_w, i32_w]
            rfl
          refine pure_ (i := 21) (N := (some 137)) (v := ?_) (a' := ?_) #[true, true, true, true, true, true, true, true, true, true, true, true, true, true, true, true, true, true, true, true, true, true, false, false, false, false, false, false, false, false, false, false] rfl rfl (by kernel_rfl) (fun _ _ _ h => h) (Or.inl ⟨by rfl, ?_⟩) ?_ ?_
          rotate_left
          · intro w'
            go_simp
            with_reducible rfl
          rotate_left
          · simp only [Act.put, List.setIfInBounds_toArray, List.set_cons_zero, List.set_cons_succ, i64_w, i32_w]
            rfl
          refine pure_ (i := 22) (N := (some 138)) (v := ?_) (a' := ?_) #[true, true, true, true, true, true, true, true, true, true, true, true, true, true, true, true, true, true, true, true, true, true, true, false, false, false, false, false, false, false, false, false] rfl rfl (by kernel_rfl) (fun _ _ _ h => h) (Or.inl ⟨by rfl, ?_⟩) ?_ ?_
          rotate_left
          · intro w'
            go_simp
            with_reducible rfl
          rotate_left
          · simp only [Act.put, List.setIfInBounds_toArray, List.set_cons_zero, List.set_cons_succ, i64_w, i32_w]
            rfl
          refine pure_ (i := 23) (N := (some 139)) (v := ?_) (a' := ?_) #[true, true, true, true, true, true, true, true, true, true, true, true, true, true, true, true, true, true, true, true, true, true, true, true, false, false, false, false, false, false, false, false] rfl rfl (by kernel_rfl) (fun _ _ _ h => h) (Or.inl ⟨by rfl, ?_⟩) ?_ ?_
          rotate_left
          · intro w'
            go_simp
            with_reducible rfl
          rotate_left
          · simp only [Act.put, List.setIfInBounds_toArray, List.set_cons_zero, List.set_cons_succ, i64_w, i32_w]
            rfl
          refine pure_ (i := 24) (N := (some 140)) (v := ?_) (a' := ?_) #[true, true, true, true, true, true, true, true, true, true, true, true, true, true, true, true, true, true, true, true, true, true, true, true, true, false, false, false, false, false, false, false] rfl rfl (by kernel_rfl) (fun _ _ _ h => h) (Or.inl ⟨by rfl, ?_⟩) ?_ ?_
          rotate_left
          · intro w'
            go_simp
            with_reducible rfl
          rotate_left
          · simp only [Act.put, List.setIfInBounds_toArray, List.set_cons_zero, List.set_cons_succ, i64_w, i32_w]
            rfl
          refine pure_ (i := 25) (N := (some 141)) (v := ?_) (a' := ?_) #[true, true, true, true, true, true, true, true, true, true, true, true, true, true, true, true, true, true, true, true, true, true, true, true, true, true, false, false, false, false, false, false] rfl rfl (by kernel_rfl) (fun _ _ _ h => h) (Or.inl ⟨by rfl, ?_⟩) ?_ ?_
          rotate_left
          · intro w'
            go_simp
            with_reducible rfl
          rotate_left
          · simp only [Act.put, List.setIfInBounds_toArray, List.set_cons_zero, List.set_cons_succ, i64_w, i32_w]
            rfl
          refine pure_ (i := 26) (N := (some 142)) (v := ?_) (a' := ?_) #[true, true, true, true, true, true, true, true, true, true, true, true, true, true, true, true, true, true, true, true, true, true, true, true, true, true, true, false, false, false, false, false] rfl rfl (by kernel_rfl) (fun _ _ _ h => h) (Or.inl ⟨by rfl, ?_⟩) ?_ ?_
          rotate_left
          · intro w'
            go_simp
            with_reducible rfl
          rotate_left
          · simp only [Act.put, List.setIfInBounds_toArray, List.set_cons_zero, List.set_cons_succ, i64_w, i32_w]
            rfl
          refine pure_ (i := 28) (N := (some 144)) (v := ?_) (a' := ?_) #[true, true, true, true, true, true, true, true, true, true, true, true, true, true, true, true, true, true, true, true, true, true, true, true, true, true, true, false, true, false, false, false] rfl rfl (by kernel_rfl) (fun _ _ _ h => h) (Or.inl ⟨by rfl, ?_⟩) ?_ ?_
          rotate_left
          · intro w'
            go_simp
            with_reducible rfl
          rotate_left
          · simp only [Act.put, List.setIfInBounds_toArray, List.set_cons_zero, List.set_cons_succ, i64_w, i32_w]
            rfl
          refine take_ (i := 27) (N := (some 143)) (v := ?_) (a' := ?_) #[true, true, true, true, true, true, true, true, true, true, true, true, true, true, true, true, true, true, true, true, true, true, true, true, true, true, true, true, true, false, false, false] rfl rfl (by kernel_rfl) (fun _ _ _ h => h) (Or.inl ⟨by rfl, ?_⟩) hHeld ?_ ?_
          rotate_left
          · intro w' s0
            refine (run_load_row (by rfl) (by rfl) s0 Tryd.underlying32 rfl (by rw [blkArr_size, HY.out]; kernel_rfl)).trans ?_
            with_reducible rfl
          rotate_left
          · simp only [Act.put, List.setIfInBounds_toArray, List.set_cons_zero, List.set_cons_succ, i64_w, i32_w]
            rfl
          refine pure_ (i := 29) (N := (some 145)) (v := ?_) (a' := ?_) #[true, true, true, true, true, true, true, true, true, true, true, true, true, true, true, true, true, true, true, true, true, true, true, true, true, true, true, true, true, true, false, false] rfl rfl (by kernel_rfl) (fun _ _ _ h => h) (Or.inl ⟨by rfl, ?_⟩) ?_ ?_
          rotate_left
          · intro w'
            go_simp
            with_reducible rfl
          rotate_left
          · simp only [Act.put, List.setIfInBounds_toArray, List.set_cons_zero, List.set_cons_succ, i64_w, i32_w]
            rfl
          refine pure_ (i := 30) (N := (some 146)) (v := ?_) (a' := ?_) #[true, true, true, true, true, true, true, true, true, true, true, true, true, true, true, true, true, true, true, true, true, true, true, true, true, true, true, true, true, true, true, false] rfl rfl (by kernel_rfl) (fun _ _ _ h => h) (Or.inl ⟨by rfl, ?_⟩) ?_ ?_
          rotate_left
          · intro w'
            go_simp
            with_reducible rfl
          rotate_left
          · simp only [Act.put, List.setIfInBounds_toArray, List.set_cons_zero, List.set_cons_succ, i64_w, i32_w]
            rfl
          refine pure_ (i := 31) (N := (some 147)) (v := ?_) (a' := ?_) #[true, true, true, true, true, true, true, true, true, true, true, true, true, true, true, true, true, true, true, true, true, true, true, true, true, true, true, true, true, true, true, true] rfl rfl (by kernel_rfl) (fun _ _ _ h => h) (Or.inl ⟨by rfl, ?_⟩) ?_ ?_
          rotate_left
          · intro w'
            go_simp
            with_reducible rfl
          rotate_left
          · simp only [Act.put, List.setIfInBounds_toArray, List.set_cons_zero, List.set_cons_succ, i64_w, i32_w]
            rfl
          refine done_ (by kernel_rfl) ?_
          go_wp2_with fail
          refine (names_any R.out).mono ?_
          rintro e w81 ⟨u1, rfl, own1, hb⟩
          have T1 := Aside0.mk (names_trow own1)
          replace R := Aside0.mk (R.out.below hb)
          replace Q := Aside0.mk (Q.out.below hb)
          replace BL : Aside0 (Below base w w81) := ⟨below_on HB.out BL.out hb⟩
          clear own1 hb
          go_wp2_with fail
          refine (names_q Q.out).mono ?_
          rintro e w82 ⟨u2, rfl, own2, hb⟩
          have T2 := Aside0.mk (names_trow own2)
          replace T1 := Aside0.mk (trow_below T1.out hb)
          replace R := Aside0.mk (R.out.below hb)
          replace Q := Aside0.mk (Q.out.below hb)
          replace BL : Aside0 (Below base w w82) := ⟨below_on HB.out BL.out hb⟩
          clear own2 hb
          go_wp2_with fail
          refine (tx2 T1.out T2.out).mono ?_
          rintro e w83 ⟨rfl, hb⟩
          replace R := Aside0.mk (R.out.below hb)
          replace Q := Aside0.mk (Q.out.below hb)
          replace BL : Aside0 (Below base w w83) := ⟨below_on HB.out BL.out hb⟩
          clear hb T1 T2
          go_wp2_with fail
          refine (free_any R.out).mono ?_
          rintro e w84 ⟨rfl, hb⟩
          replace R := Aside0.mk (R.out.below hb)
          replace Q := Aside0.mk (Q.out.below hb)
          replace BL : Aside0 (Below base w w84) := ⟨below_on HB.out BL.out hb⟩
          clear hb
          go_wp2_with fail
          refine (free_q Q.out).mono ?_
          rintro e w85 ⟨rfl, hb⟩
          replace R := Aside0.mk (R.out.below hb)
          replace Q := Aside0.mk (Q.out.below hb)
          replace BL : Aside0 (Below base w w85) := ⟨below_on HB.out BL.out hb⟩
          clear hb
          go_wp2_with fail
          go_roundw
          case measure => simp [intOf]; omega
          case rel => exact ⟨i + 1, L, gs, v, gq, vq, by omega, by go_num, R, Q, D, BL⟩
      have k0 : (x.k == 0) = false := by simp [hk0]
      have k1 : (x.k == 1) = false := by simp [hk1]
      have k2 : (x.k == 2) = false := by simp [hk2]
      have k3 : (x.k == 3) = false := by simp [hk3]
      have c0 := ck.out
      clear hk0 hk1 hk2 hk3 ck
      generalize x.k = xk at c0 k0 k1 k2 k3
      go_wp2_with fail
      refine (names_any R.out).mono ?_
      rintro e w86 ⟨u1, rfl, own1, hb⟩
      have T1 := Aside0.mk (names_trow own1)
      replace R := Aside0.mk (R.out.below hb)
      replace Q := Aside0.mk (Q.out.below hb)
      replace BL : Aside0 (Below base w w86) := ⟨below_on HB.out BL.out hb⟩
      clear own1 hb
      go_wp2_with fail
      refine (names_q Q.out).mono ?_
      rintro e w87 ⟨u2, rfl, own2, hb⟩
      have T2 := Aside0.mk (names_trow own2)
      replace T1 := Aside0.mk (trow_below T1.out hb)
      replace R := Aside0.mk (R.out.below hb)
      replace Q := Aside0.mk (Q.out.below hb)
      replace BL : Aside0 (Below base w w87) := ⟨below_on HB.out BL.out hb⟩
      clear own2 hb
      go_wp2_with fail
      refine (tx2 T1.out T2.out).mono ?_
      rintro e w88 ⟨rfl, hb⟩
      replace R := Aside0.mk (R.out.below hb)
      replace Q := Aside0.mk (Q.out.below hb)
      replace BL : Aside0 (Below base w w88) := ⟨below_on HB.out BL.out hb⟩
      clear hb T1 T2
      go_wp2_with fail
      refine (free_any R.out).mono ?_
      rintro e w89 ⟨rfl, hb⟩
      replace R := Aside0.mk (R.out.below hb)
      replace Q := Aside0.mk (Q.out.below hb)
      replace BL : Aside0 (Below base w w89) := ⟨below_on HB.out BL.out hb⟩
      clear hb
      go_wp2_with fail
      refine (free_q Q.out).mono ?_
      rintro e w90 ⟨rfl, hb⟩
      replace R := Aside0.mk (R.out.below hb)
      replace Q := Aside0.mk (Q.out.below hb)
      replace BL : Aside0 (Below base w w90) := ⟨below_on HB.out BL.out hb⟩
      clear hb
      go_wp2_with fail
      go_roundw
      case measure => simp [intOf]; omega
      case rel => exact ⟨i + 1, L, gs, v, gq, vq, by omega, by go_num, R, Q, D, BL⟩
    · have e : i = len := by omega
      subst e
      go_wp2_with fail
      refine (wakes_any _).mono ?_
      rintro e w9 ⟨rfl, hb⟩
      go_wp2_with fail
      go_ret
      exact ⟨rfl, below_on HB.out BL.out hb⟩

end Go.Proofs.YtkppnamblmaokaaDoor.RefG
